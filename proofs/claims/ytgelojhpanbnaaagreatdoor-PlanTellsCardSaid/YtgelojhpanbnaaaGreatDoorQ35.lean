/- Texts joined into one (a claim has at most 60 files): plan.all: all times of events: its contract; plan.meet of two lists of times: its contract. -/
import Derived.Test.YtgelojhpanbnaaaGreatDoorQ40
import Derived.Test.YtgelojhpanbnaaaGreatDoorQ18
namespace Go.Proofs.YtgelojhpanbnaaaGreatDoor
open Go.RowKit Go.Shelf
set_option linter.unusedSimpArgs false
set_option linter.unusedVariables false
attribute [local go_sem] Oper.semAt_some

structure EvO (W : World) (b o : Nat) (e : Ev) : Prop where
  k0 : W.cell? ⟨b, o, none⟩ = some (.string (bs e.nm))
  k1 : W.cell? ⟨b, o + 1, none⟩ = some (.string (bs e.tx))
  k2 : W.cell? ⟨b, o + 2, none⟩ = some (.int .i64 e.st)
  k3 : W.cell? ⟨b, o + 3, none⟩ = some (.int .i64 e.ln)
  k4 : W.cell? ⟨b, o + 4, none⟩ = some (.bool e.rp)
  k5 : W.cell? ⟨b, o + 5, none⟩ = some (.int .i64 e.fr)
  k6 : W.cell? ⟨b, o + 6, none⟩ = some (.int .i64 e.ev)
  k7 : W.cell? ⟨b, o + 7, none⟩ = some (.int .i64 e.ct)
  k8 : W.cell? ⟨b, o + 8, none⟩ = some (.int .i64 e.ti)
  k9 : W.cell? ⟨b, o + 9, none⟩ = some (e.vm)
  k10 : W.cell? ⟨b, o + 10, none⟩ = some (e.vd)
  k11 : W.cell? ⟨b, o + 11, none⟩ = some (e.vw)
  k12 : W.cell? ⟨b, o + 12, none⟩ = some (e.vp)
  k13 : W.cell? ⟨b, o + 13, none⟩ = some (e.vM)
  k14 : W.cell? ⟨b, o + 14, none⟩ = some (e.vN)
  k15 : W.cell? ⟨b, o + 15, none⟩ = some (e.vC)
  k16 : W.cell? ⟨b, o + 16, none⟩ = some (e.vA)

theorem EvO.below {W W' : World} {b o : Nat} {e : Ev} (h : EvO W b o e) (hb : Below W.heap.size W W') : EvO W' b o e :=
  ⟨cell_below hb h.k0, cell_below hb h.k1, cell_below hb h.k2, cell_below hb h.k3, cell_below hb h.k4, cell_below hb h.k5, cell_below hb h.k6, cell_below hb h.k7, cell_below hb h.k8, cell_below hb h.k9, cell_below hb h.k10, cell_below hb h.k11, cell_below hb h.k12, cell_below hb h.k13, cell_below hb h.k14, cell_below hb h.k15, cell_below hb h.k16⟩

instance : Inhabited Ev := ⟨⟨[], [], 0, 0, false, 0, 0, 0, 0, .nilIface, .nilIface, .nilIface, .nilIface, .nilIface, .nilIface, .nilIface, .nilIface, [], [], [], [], [], [], [], []⟩⟩

theorem ev_cells_len (e : Ev) : e.cells.length = 17 := rfl

theorem evsR_open {w : World} {v : Value} {L : List Ev} (h : EvsR w v L) : ∃ a cap, v = .slice a L.length cap ∧ L.length ≤ cap ∧ cap ≤ maxLen ∧
    (0 < L.length → ∃ b off, a = some ⟨b, off, none⟩ ∧ ∀ (k : Nat) (hk : k < L.length), EvO w b (off + k * 17) L[k]) := by
  obtain ⟨⟨p, cap, rfl, k1, k2, k3, k4⟩, h2⟩ := h
  refine ⟨p, cap, rfl, k2, k3, fun hp => ?_⟩
  obtain ⟨b, off, rfl, hc⟩ := k4 hp
  refine ⟨b, off, rfl, fun k hk => ?_⟩
  have q : ∀ (o : Nat) (ho : o < 17) (u : Value), (L[k].cells)[o]? = some u → w.cell? ⟨b, off + k * 17 + o, none⟩ = some u := fun o ho u hu => by
    rw [Nat.add_assoc]
    exact hc _ _ ((flatMap_at (enc := Ev.cells) (k := 17) ev_cells_len L k o hk ho).trans hu)
  exact ⟨q 0 (by decide) _ rfl, q 1 (by decide) _ rfl, q 2 (by decide) _ rfl, q 3 (by decide) _ rfl, q 4 (by decide) _ rfl, q 5 (by decide) _ rfl, q 6 (by decide) _ rfl, q 7 (by decide) _ rfl, q 8 (by decide) _ rfl, q 9 (by decide) _ rfl, q 10 (by decide) _ rfl, q 11 (by decide) _ rfl, q 12 (by decide) _ rfl, q 13 (by decide) _ rfl, q 14 (by decide) _ rfl, q 15 (by decide) _ rfl, q 16 (by decide) _ rfl⟩

structure TssS (B : Nat) (w : World) (v : Value) (T : List TL) (S : List Value) : Prop where
  len : S.length = T.length
  own : w.ownsRow B 47 1 v T.length S
  one : ∀ u ∈ S, u.oneCell' = true
  tms : ∀ (i : Nat) (h : i < T.length) (h2 : i < S.length), TmsR T[i].1 w S[i] T[i].2
  far : ∀ u ∈ S, ∀ b, u.ownBlock = some b → v.ownBlock ≠ some b
  lt : ∀ u ∈ S, ∀ b, u.ownBlock = some b → b < w.heap.size

def TssR (B : Nat) (w : World) (v : Value) (T : List TL) : Prop := ∃ S, TssS B w v T S

theorem TssR.nil (B : Nat) (w : World) : TssR B w (.slice none 0 0) [] := ⟨[], rfl, World.ownsRow_nil _ _ _ _, (by simp), (fun i h => by simp at h), (by simp), (by simp)⟩

theorem TssS.below {B : Nat} {w w' : World} {v : Value} {T : List TL} {S : List Value} (h : TssS B w v T S) (hb : Below w.heap.size w w') : TssS B w' v T S :=
  ⟨h.len, own_kept h.own hb, h.one, fun i h1 h2 => (h.tms i h1 h2).below hb, h.far, fun u hu b hb2 => Nat.lt_of_lt_of_le (h.lt u hu b hb2) hb.size⟩

theorem TssR.below {B : Nat} {w w' : World} {v : Value} {T : List TL} (h : TssR B w v T) (hb : Below w.heap.size w w') : TssR B w' v T := by
  obtain ⟨S, h⟩ := h; exact ⟨S, h.below hb⟩

theorem TssS.mono {B B' : Nat} {w : World} {v : Value} {T : List TL} {S : List Value} (h : TssS B w v T S) (hb : B' ≤ B) : TssS B' w v T S := ⟨h.len, World.ownsRow.mono h.own hb, h.one, h.tms, h.far, h.lt⟩

theorem TssR.mono {B B' : Nat} {w : World} {v : Value} {T : List TL} (h : TssR B w v T) (hb : B' ≤ B) : TssR B' w v T := by
  obtain ⟨S, h⟩ := h; exact ⟨S, h.mono hb⟩

theorem reads_grown {w w' : World} {v : Value} {k n : Nat} {xs : List Value} {row : Option Nat} (h : Reads w v k n xs) (hg : w.grownBy w' row) (hn : ∀ b, v.ownBlock = some b → row ≠ some b) : Reads w' v k n xs := by
  obtain ⟨p, cap, rfl, k1, k2, k3, k4⟩ := h
  refine ⟨p, cap, rfl, k1, k2, k3, fun hp => ?_⟩
  obtain ⟨b, off, rfl, hc⟩ := k4 hp
  exact ⟨b, off, rfl, fun j u hj => hg.cell (hc j u hj) (fun he => hn b rfl he.symm)⟩

theorem TssS.push {B : Nat} {w w8 : World} {v u v8 : Value} {o : Obj} {T : List TL} {S : List Value} {r : TL} (h : TssS B w v T S) (hu : TmsR r.1 w u r.2) (h1 : u.oneCell' = true) (hs : ∀ b, u.ownBlock = some b → v.ownBlock ≠ some b ∧ b < w.heap.size)
    (hg : (w.alloc o).grownBy w8 v.ownBlock) (hown : w8.ownsRow B 47 1 v8 (T.length + 1) (S ++ [u])) (hat : v8.ownBlock = v.ownBlock ∨ v8.ownBlock = some (w.alloc o).heap.size) : TssS B w8 v8 (T ++ [r]) (S ++ [u]) := by
  have hal : Below w.heap.size w (w.alloc o) := (Below.refl _ _).alloc (Nat.le_refl _) o
  refine ⟨by simp [h.len], by rw [List.length_append]; exact hown, fun x hx => ?_, fun i hi hi2 => ?_, fun x hx b hb => ?_, fun x hx b hb => ?_⟩
  · rcases List.mem_append.1 hx with h2 | h2
    · exact h.one x h2
    · obtain rfl := List.mem_singleton.1 h2; exact h1
  · by_cases hik : i < T.length
    · have a1 : (T ++ [r])[i] = T[i] := List.getElem_append_left _
      have a2 : (S ++ [u])[i] = S[i]'(by rw [h.len]; exact hik) := List.getElem_append_left _
      rw [a1, a2]
      exact reads_grown (Reads.below (h.tms i hik (by rw [h.len]; exact hik)) hal) hg (fun b hb => h.far _ (List.getElem_mem _) b hb)
    · obtain rfl : i = T.length := by rw [List.length_append] at hi; simp at hi; omega
      have a1 : (T ++ [r])[T.length] = r := by rw [List.getElem_append_right (Nat.le_refl _)]; simp
      have a2 : (S ++ [u])[T.length]'hi2 = u := by rw [List.getElem_append_right (by rw [h.len]; exact Nat.le_refl _)]; simp [h.len]
      rw [a1, a2]
      exact reads_grown (Reads.below hu hal) hg (fun b hb => (hs b hb).1)
  · have hb2 : v.ownBlock ≠ some b ∧ b < w.heap.size := by
      rcases List.mem_append.1 hx with h2 | h2
      · exact ⟨h.far x h2 b hb, h.lt x h2 b hb⟩
      · obtain rfl := List.mem_singleton.1 h2
        exact hs b hb
    rcases hat with h3 | h3
    · rw [h3]; exact hb2.1
    · rw [h3, World.size_alloc]
      intro he
      have : w.heap.size + 1 = b := by simpa using he
      omega
  · have hsz : w.heap.size ≤ w8.heap.size := Nat.le_trans hal.size hg.size
    rcases List.mem_append.1 hx with h2 | h2
    · exact Nat.lt_of_lt_of_le (h.lt x h2 b hb) hsz
    · obtain rfl := List.mem_singleton.1 h2
      exact Nat.lt_of_lt_of_le (hs b hb).2 hsz

def AllP (E : Int) (T : List TL) (w : World) (e : Ending) (w' : World) : Prop := ∃ v, e = .returned (.tuple #[v, errV E]) ∧ TssR w.heap.size w' v (if E = 0 then T else []) ∧ Below w.heap.size w w'

theorem tssInfo : (Tryz.prog.info? 47).map (fun i => (i.zero, i.size, i.bytes)) = some (some (.slice none 0 0), 1, 24) := by kernel_rfl

theorem sumN_le {T : List TL} {k : Nat} : sumN (T.take k) ≤ sumN T := by
  have h : T = T.take k ++ T.drop k := (List.take_append_drop k T).symm
  have h2 : sumN T = sumN (T.take k) + sumN (T.drop k) := by unfold sumN; rw [← List.sum_append_nat, ← List.map_append, List.take_append_drop]
  omega

theorem sumN_next {T : List TL} {k : Nat} (h : k < T.length) : sumN (T.take (k + 1)) = sumN (T.take k) + T[k].2.length := by
  unfold sumN; rw [List.take_succ_eq_append_getElem h, List.map_append, List.sum_append_nat]; simp

set_option maxRecDepth 100000 in
set_option maxHeartbeats 16000000 in
theorem all_any (ah : Int) (vZ : Value) (Z : List (Int × Int)) (v : Value) (L : List Ev) (a b : Int) (w : World) (hw : Months w) (hL : EvsR w v L) (hZ : PairsR w vZ Z) :
    Calls Tryz.prog 106 #[.agg #[.int .i64 ah, vZ], v, .int .i64 a, .int .i64 b] w
      (AllP (allE L.length (L.map (Ev.err ah Z a b)) (sumN (L.map fun e => (e.ln, e.times ah Z a b)))) (L.map fun e => (e.ln, e.times ah Z a b)) w) := by
  obtain ⟨p, cap, rfl, hc1, hc2, hcell⟩ := evsR_open hL
  unfold maxLen at hc2
  have hZ0 := hZ
  obtain ⟨aZ, kZ, rfl, -, -, -⟩ := pairsR_open hZ
  obtain ⟨eb, heb⟩ : ∃ x, x = w.heap.size := ⟨_, rfl⟩
  obtain ⟨wz, hwz⟩ : ∃ x, x = w.alloc (.cells #[.int .i64 ah, .slice aZ Z.length kZ] 33) := ⟨_, rfl⟩
  have hbz : Below w.heap.size w wz := by rw [hwz]; exact (Below.refl _ _).alloc (Nat.le_refl _) _
  have z0 : wz.cell? ⟨eb, 0, none⟩ = some (.int .i64 ah) := by rw [hwz, heb]; simp
  have z1 : wz.cell? ⟨eb, 1, none⟩ = some (.slice aZ Z.length kZ) := by rw [hwz, heb]; simp
  obtain ⟨T, hT⟩ : ∃ T, T = L.map fun e => (e.ln, e.times ah Z a b) := ⟨_, rfl⟩
  obtain ⟨es, hes⟩ : ∃ es, es = L.map (Ev.err ah Z a b) := ⟨_, rfl⟩
  have lT : T.length = L.length := by rw [hT, List.length_map]
  have lE : es.length = L.length := by rw [hes, List.length_map]
  have BF := Lib.hid (show ∀ (k : Nat) (hk : k < L.length) (hT2 : k < T.length) (hE2 : k < es.length) (wx : World), Below wz.heap.size wz wx → Calls Tryz.prog 17 #[.agg #[.int .i64 ah, .slice aZ Z.length kZ], .agg L[k].cells.toArray, .int .i64 a, .int .i64 b] wx (BetP L[k].ln es[k] T[k].2 wx) from fun k hk hT2 hE2 wx hbx => by
    have hbw : Below w.heap.size w wx := hbz.trans (hbx.mono hbz.size)
    have h := ev_between L[k] ah _ Z a b wx (hw.below hbw) ((hL.2 _ (List.getElem_mem _)).below hbw) (hZ0.below hbw)
    have e1 : T[k] = (L[k].ln, L[k].times ah Z a b) := by simp [hT]
    have e2 : es[k] = L[k].err ah Z a b := by simp [hes]
    rw [e1, e2]; exact h)
  have RD := Lib.hid (show ∀ (k : Nat) (hk : k < L.length) (wx : World), Below wz.heap.size wz wx → L[k].Rd wx from fun k hk wx hbx => (hL.2 _ (List.getElem_mem _)).below (hbz.trans (hbx.mono hbz.size)))
  have TL1 := Lib.hid (show ∀ (k : Nat) (hk : k < L.length) (hT2 : k < T.length), T[k].1 = L[k].ln from fun k hk hT2 => by simp [hT])
  have E200 := Lib.hid (show ∀ (k : Nat) (hk : k < L.length) (hT2 : k < T.length) (hE2 : k < es.length), es[k] = 0 → T[k].2.length ≤ 200 from fun k hk hT2 hE2 h0 => by
    have e1 : T[k] = (L[k].ln, L[k].times ah Z a b) := by simp [hT]
    have e2 : es[k] = L[k].err ah Z a b := by simp [hes]
    rw [e2] at h0
    have := (fullN_0 h0.symm).2
    rw [e1]; exact this)
  rw [← hT, ← hes]
  have HC := Lib.hid (show 0 < L.length → ∃ b off, p = some ⟨b, off, none⟩ ∧ ∀ (k : Nat) (hk : k < L.length), EvO wz b (off + k * 17) L[k] from fun hp => by
    obtain ⟨b, off, e1, e2⟩ := hcell hp
    exact ⟨b, off, e1, fun k hk => (e2 k hk).below hbz⟩)
  have BW := Lib.hid hbz; have WZ := Lib.hid hwz; have EB := Lib.hid heb
  have Z0 := Lib.hid z0; have Z1 := Lib.hid z1
  have LT := Lib.hid lT; have LE := Lib.hid lE
  obtain ⟨len, hlen⟩ : ∃ n, n = L.length := ⟨_, rfl⟩
  have NL := Lib.hid hlen
  rw [← hlen] at hc1 ⊢
  clear hw hL hZ hZ0 hwz hbz heb hcell hT hes lT lE z0 z1 hlen
  go_enter Tryz.func106, Tryz.ntmps106
  go_upto_region 1 with fail
  rw [← WZ.out]
  rw [← EB.out]
  by_cases h20 : 20 < len
  · have t1 : decide ((20 : Int) < (len : Int)) = true := decide_eq_true (by omega)
    have t1b : decide (20 < len) = true := decide_eq_true h20
    have FE := Lib.hid (show allE len es (sumN T) = 4 by rw [allE, if_pos h20])
    clear h20
    go_wp2
    go_ret2
    exact ⟨_, by rw [FE.out]; rfl, by rw [FE.out]; exact TssR.nil _ _, BW.out⟩
  have H20 := Lib.hid h20
  have t1 : decide ((20 : Int) < (len : Int)) = false := decide_eq_false (by omega)
  have t1b : decide (20 < len) = false := decide_eq_false h20
  have l20 : len ≤ 20 := by omega
  clear h20
  obtain ⟨it, hit, ht0, ht1, ht2⟩ := info_parts tssInfo
  go_wp2_with fail
  clear t1 t1b
  go_loopg [10, 11, 22] len (fun g ov nv iv wr => ∃ k n : Nat, k ≤ len ∧ iv = .int .i64 k ∧ g = len - k ∧ nv = .int .i64 n ∧ n = sumN (T.take k) ∧ n ≤ 200 * k ∧ TssR wz.heap.size wr ov (T.take k) ∧ fstE (es.take k) = 0 ∧ Below wz.heap.size wz wr)
  case atStart => exact ⟨0, 0, Nat.zero_le _, rfl, rfl, rfl, rfl, by omega, TssR.nil _ _, rfl, Below.refl _ _⟩
  case round =>
    obtain ⟨k, n, hk, rfl, hg, rfl, hn, hnk, ho, hf, hb⟩ := hrel
    obtain ⟨w1, rfl⟩ : ∃ x, x = wr := ⟨_, rfl⟩
    have G := Lib.hid hg; have OW := Lib.hid ho; have HF := Lib.hid hf; have B1 := Lib.hid hb; have HN := Lib.hid hn
    clear hg ho hf hb hn
    by_cases hlt : k < len
    · have hk1 : k < L.length := by rw [← NL.out]; exact hlt
      have hk2 : k < T.length := by rw [LT.out]; exact hk1
      have hk3 : k < es.length := by rw [LE.out]; exact hk1
      obtain ⟨lb, lo, rfl, hcs⟩ := HC.out (by omega)
      have eo := (hcs k hk1).below B1.out
      have BT := Lib.hid (BF.out k hk1 hk2 hk3)
      have rd := RD.out k hk1 _ B1.out
      have T1 := Lib.hid (TL1.out k hk1 hk2)
      have E2 := Lib.hid (E200.out k hk1 hk2 hk3)
      have SN := Lib.hid (sumN_next hk2)
      have TN := Lib.hid (show T.take (k + 1) = T.take k ++ [T[k]] from List.take_succ_eq_append_getElem hk2)
      have EN := Lib.hid (show fstE (es.take (k + 1)) = es[k] by rw [List.take_succ_eq_append_getElem hk3, fstE_app, if_neg (by rw [HF.out]; simp), fstE_one])
      have ED := Lib.hid (show es[k] ≠ 0 → allE len es (sumN T) = es[k] from fun h => by
        have h1 : fstE es = es[k] := by
          have h2 : fstE es = fstE (es.take (k + 1) ++ es.drop (k + 1)) := by rw [List.take_append_drop]
          rw [h2, fstE_app, EN.out, if_pos h]
        rw [allE, if_neg H20.out, if_pos (by rw [h1]; exact h), h1])
      obtain ⟨e, he⟩ : ∃ e, e = L[k] := ⟨_, rfl⟩
      rw [← he] at eo BT rd T1
      obtain ⟨E, hE⟩ : ∃ E, E = es[k] := ⟨_, rfl⟩
      rw [← hE] at BT E2 EN ED
      obtain ⟨R, hR⟩ : ∃ R, R = T[k] := ⟨_, rfl⟩
      rw [← hR] at BT E2 TN SN T1
      obtain ⟨o, hoo⟩ : ∃ o, o = lo + k * 17 := ⟨_, rfl⟩
      rw [← hoo] at eo
      obtain ⟨nm, tx, st, ln, rp, fr, ev, ct, ti, vm, vd, vw, vp, vM, vN, vC, vA, mo, da, we, pk, M, N, C, A⟩ := e
      obtain ⟨q0, q1, q2, q3, q4, q5, q6, q7, q8, q9, q10, q11, q12, q13, q14, q15, q16⟩ := eo
      simp only [Ev.cells] at q0 q1 q2 q3 q4 q5 q6 q7 q8 q9 q10 q11 q12 q13 q14 q15 q16 BT T1
      obtain ⟨hR0, hnm, htx, hcl⟩ := rd
      simp only at hR0
      obtain ⟨h1, h2, h3, h4, hM, hN, hC, hA⟩ := hR0
      obtain ⟨am, km, rfl, -, -, -⟩ := intsR_open h1
      obtain ⟨ad, kd, rfl, -, -, -⟩ := intsR_open h2
      obtain ⟨aw, kw, rfl, -, -, -⟩ := pairsR_open h3
      obtain ⟨ap, kp, rfl, -, -, -⟩ := intsR_open h4
      obtain ⟨aM, kM, rfl, -, -, -⟩ := intsR_open hM
      obtain ⟨aN, kN, rfl, -, -, -⟩ := intsR_open hN
      obtain ⟨aC, kC, rfl, -, -, -⟩ := pairsR_open hC
      obtain ⟨aA, kA, rfl, -, -, -⟩ := almsR_open hA
      obtain ⟨snm, hsnm⟩ : ∃ s, s = bs nm := ⟨_, rfl⟩
      obtain ⟨stx, hstx⟩ : ∃ s, s = bs tx := ⟨_, rfl⟩
      rw [← hsnm] at q0 BT; rw [← hstx] at q1 BT
      obtain ⟨w2, hw2⟩ : ∃ x, x = w1.alloc (.cells #[.string snm, .string stx, .int .i64 st, .int .i64 ln, .bool rp, .int .i64 fr, .int .i64 ev, .int .i64 ct, .int .i64 ti, .slice am mo.length km, .slice ad da.length kd, .slice aw we.length kw, .slice ap pk.length kp, .slice aM M.length kM, .slice aN N.length kN, .slice aC C.length kC, .slice aA A.length kA] 29) := ⟨_, rfl⟩
      obtain ⟨ob, hob⟩ : ∃ x, x = w1.heap.size := ⟨_, rfl⟩
      have EC := hw2 ▸ evC_new w1 29 snm stx st ln rp fr ev ct ti (.slice am mo.length km) (.slice ad da.length kd) (.slice aw we.length kw) (.slice ap pk.length kp) (.slice aM M.length kM) (.slice aN N.length kN) (.slice aC C.length kC) (.slice aA A.length kA)
      rw [← hob] at EC
      have EC := Lib.hid EC
      have hb12 : Below w1.heap.size w1 w2 := by rw [hw2]; exact (Below.refl _ _).alloc (Nat.le_refl _) _
      have B12 := Lib.hid hb12
      have B2 := Lib.hid (B1.out.trans (hb12.mono B1.out.size))
      have W2 := Lib.hid hw2; have OB := Lib.hid hob; have OO := Lib.hid hoo
      have i0 : (0 : Int) ≤ (k : Int) := Int.natCast_nonneg _
      have i2 : (k : Int) < (len : Int) := by omega
      have hob2 : lb < w1.heap.size := World.block_lt_of_cell? w1 _ q0
      rw [hoo] at q0 q1 q2 q3 q4 q5 q6 q7 q8 q9 q10 q11 q12 q13 q14 q15 q16
      have NX := Lib.hid (BT.out w2 B2.out)
      clear he hE hR hoo h1 h2 h3 h4 hM hN hC hA hnm htx hcl hsnm hstx hw2 hob hb12 BT hcs
      go_upto_region 8 with fail
      rw [← W2.out]
      rw [← OB.out]
      clear q0 q1 q2 q3 q4 q5 q6 q7 q8 q9 q10 q11 q12 q13 q14 q15 q16
      have z0 := cell_below B2.out Z0.out; have z1 := cell_below B2.out Z1.out
      have k0 := EC.out.k0; have k1 := EC.out.k1; have k2 := EC.out.k2; have k3 := EC.out.k3; have k4 := EC.out.k4; have k5 := EC.out.k5; have k6 := EC.out.k6; have k7 := EC.out.k7; have k8 := EC.out.k8; have k9 := EC.out.k9; have k10 := EC.out.k10; have k11 := EC.out.k11; have k12 := EC.out.k12; have k13 := EC.out.k13; have k14 := EC.out.k14; have k15 := EC.out.k15; have k16 := EC.out.k16
      go_cut [14, 15] (fun s14 s15 wx => ∃ v, s14 = v ∧ s15 = errV E ∧ OwnT ln w2.heap.size wx v (if E = 0 then R.2 else []) ∧ Below w2.heap.size w2 wx)
      case first => as_aux_lemma =>
        go_wp2_with fail
        refine NX.out.mono ?_; rintro e w3 ⟨v, rfl, hv, hb⟩
        have HV := Lib.hid hv; have HB := Lib.hid hb
        clear hv hb z0 z1 k0 k1 k2 k3 k4 k5 k6 k7 k8 k9 k10 k11 k12 k13 k14 k15 k16
        go_wp2
        go_meet
        exact ⟨_, rfl, rfl, HV.out, HB.out⟩
      case rest =>
      obtain ⟨v, rfl, rfl, hv, hb3⟩ := hcut
      obtain ⟨w3, rfl⟩ : ∃ x, x = wc := ⟨_, rfl⟩
      have B23 := Lib.hid hb3
      have B3 := Lib.hid (B2.out.trans (hb3.mono B2.out.size))
      clear hb3 z0 z1 NX k0 k1 k2 k3 k4 k5 k6 k7 k8 k9 k10 k11 k12 k13 k14 k15 k16
      by_cases h0 : E ≠ 0
      · have EV := Lib.hid (show errV E = .iface 124 (.int .i64 E) by rw [errV, if_neg h0])
        have FE := Lib.hid (ED.out h0)
        have H0 := Lib.hid h0
        rw [EV.out]
        clear h0 hv
        go_wp2
        go_ret2
        exact ⟨_, by rw [FE.out, EV.out]; rfl, by rw [FE.out, if_neg H0.out]; exact TssR.nil _ _, BW.out.trans (B3.out.mono BW.out.size)⟩
      obtain rfl : E = 0 := by omega
      rw [errV_0]
      rw [if_pos rfl] at hv
      have l200 := E2.out rfl
      obtain ⟨va, vc, rfl, hvc, -, -⟩ := owns_cells hv
      unfold maxLen at hvc
      have TV := Lib.hid (show TmsR R.1 w3 (.slice va R.2.length vc) R.2 by rw [T1.out]; exact hv.tms)
      have VL := Lib.hid (World.ownsRow.lt hv)
      obtain ⟨r, hr⟩ : ∃ r, r = R.2.length := ⟨_, rfl⟩
      rw [← hr] at l200 TV VL SN
      rw [← hr]
      clear hv h0 hr ED E2
      obtain ⟨S, hS⟩ := OW.out
      have lt1 : (T.take k).length = k := by rw [List.length_take]; omega
      have OB1 := Lib.hid (World.ownsRow.lt hS.own)
      have hb13 : Below w1.heap.size w1 w3 := B12.out.trans (B23.out.mono B12.out.size)
      have hS3 := hS.below hb13
      have s2 := hS3.own
      rw [lt1] at s2
      obtain ⟨oa, oc, rfl, -, -, -⟩ := owns_cells s2
      have S2 := Lib.hid s2; have S3 := Lib.hid hS3
      have SEP := Lib.hid (show ∀ b, (Value.slice va r vc).ownBlock = some b → (Value.slice oa k oc).ownBlock ≠ some b ∧ b < w3.heap.size from fun b hb => by
        have h1 := VL.out b hb
        refine ⟨fun he => ?_, h1.2⟩
        have h2 := OB1.out b he
        have h3 := B12.out.size
        omega)
      have LT1 := Lib.hid lt1
      clear hS hS3 s2 hb13 lt1 OB1 VL
      have sw : IntKind.i64.wrap ((n : Int) + (r : Int)) = ((n + r : Nat) : Int) := by rw [Int.natCast_add]; exact IntWalk.i64_in _ (by omega)
      have sw1 : IntKind.i64.wrap ((k : Int) + 1) = ((k + 1 : Nat) : Int) := by rw [Int.natCast_add]; exact IntWalk.i64_in _ (by omega)
      have hsz3 := B3.out.size
      go_wp2_with (at_builtin; refine wpList_append_own_at _ rfl _ _ 95 rfl wz.heap.size 47 it _ 1 24 Tryz.underlying95 hit ht0 ht1 ht2 rfl (by decide) (.slice oa k oc) k S rfl (S2.out.alloc _) ⟨w3.heap.size, 0, none⟩ 1 1 [.slice va r vc] rfl rfl (cell_one_new _ _ _) (by simp [Value.oneCell']) (by unfold maxLen; omega) (by omega) (by rw [World.size_alloc]; omega) ?_; intro v8 w8 hown8 hg8 _ hat8)
      have TS := Lib.hid (show TssR wz.heap.size w8 v8 (T.take (k + 1)) by
        rw [TN.out]
        exact ⟨S ++ [.slice va r vc], S3.out.push TV.out rfl SEP.out hg8 (by rw [LT1.out]; exact hown8) hat8⟩)
      have hb38 : Below wz.heap.size wz w8 := (B3.out.alloc hsz3 _).grown hg8 (by rw [World.size_alloc]; omega) (ownBlock_ge S2.out)
      have B8 := Lib.hid hb38
      clear hown8 hg8 hat8 hb38
      go_wp2
      go_roundg (len - (k + 1))
      case measure => rw [G.out]; omega
      case rel => exact ⟨k + 1, n + r, by omega, by go_num, rfl, rfl, by rw [HN.out, SN.out], by omega, TS.out, EN.out, B8.out⟩
    · obtain rfl : k = len := by omega
      have i2 : ¬ (k : Int) < (k : Int) := by omega
      have e1 : T.take k = T := List.take_of_length_le (by rw [LT.out, ← NL.out]; exact Nat.le_refl _)
      have e2 : es.take k = es := List.take_of_length_le (by rw [LE.out, ← NL.out]; exact Nat.le_refl _)
      rw [e1] at OW HN; rw [e2] at HF
      have FE := Lib.hid (show allE k es (sumN T) = if 200 < n then 4 else 0 by rw [allE, if_neg H20.out, if_neg (by rw [HF.out]; simp), ← HN.out])
      clear e1 e2
      by_cases h2 : 200 < n
      · have t2 : decide ((200 : Int) < (n : Int)) = true := decide_eq_true (by omega)
        have t2b : decide (200 < n) = true := decide_eq_true h2
        have FE2 := Lib.hid (show allE k es (sumN T) = 4 by rw [FE.out, if_pos h2])
        clear h2
        go_wp2
        go_ret2
        exact ⟨_, by rw [FE2.out]; rfl, by rw [FE2.out]; exact TssR.nil _ _, BW.out.trans (B1.out.mono BW.out.size)⟩
      · have t2 : decide ((200 : Int) < (n : Int)) = false := decide_eq_false (by omega)
        have t2b : decide (200 < n) = false := decide_eq_false h2
        have FE2 := Lib.hid (show allE k es (sumN T) = 0 by rw [FE.out, if_neg h2])
        clear h2
        go_wp2
        go_ret2
        exact ⟨_, by rw [FE2.out]; rfl, by rw [FE2.out, if_pos rfl]; exact OW.out.mono BW.out.size, BW.out.trans (B1.out.mono BW.out.size)⟩

end Go.Proofs.YtgelojhpanbnaaaGreatDoor

namespace Go.Proofs.YtgelojhpanbnaaaGreatDoor
open Go.RowKit Go.Shelf
set_option linter.unusedSimpArgs false
set_option linter.unusedVariables false

theorem meetT_any (la lb : Int) (x1 x2 y1 y2 x3 y3 : Int) (xb : Nat) (w : World) (hx3 : x3 = x2 + la) (hy3 : y3 = y2 + lb) (hc1 : w.cell? ⟨xb, 1, none⟩ = some (.int .i64 x2)) (hc2 : w.cell? ⟨xb, 2, none⟩ = some (.int .i64 x3)) :
    Calls Tryz.prog 183 #[.agg #[.int .i64 y1, .int .i64 y2, .int .i64 y3], .pointer (some ⟨xb, 0, none⟩)] w fun e w' => e = .returned (.bool (meetT la lb (x1, x2) (y1, y2))) ∧ Below w.heap.size w w' := by
  have HB := Lib.hid (show Below w.heap.size w (w.alloc (.cells #[.int .i64 y1, .int .i64 y2, .int .i64 y3] 54)) from (Below.refl _ _).alloc (Nat.le_refl _) _)
  have hlt : xb < w.heap.size := World.block_lt_of_cell? w _ hc1
  have E := Lib.hid (show meetT la lb (x1, x2) (y1, y2) = decide (max x2 y2 < min x3 y3) by rw [meetT, hx3, hy3])
  clear hx3 hy3
  go_enter Tryz.func183, Tryz.ntmps183
  go_wp2
  all_goals
    go_ret
    exact ⟨by rw [E.out]; rfl, HB.out⟩

theorem idxMeetI_any (la lb : Int) (x1 x2 x3 : Int) (hx3 : x3 = x2 + la) (v : Value) (L : List (Int × Int)) (xb : Nat) (w : World) (hL : TmsR lb w v L) (hc1 : w.cell? ⟨xb, 1, none⟩ = some (.int .i64 x2)) (hc2 : w.cell? ⟨xb, 2, none⟩ = some (.int .i64 x3)) :
    Calls Tryz.prog 229 #[v, .func (.func 183) #[] #[.pointer (some ⟨xb, 0, none⟩)]] w (IdxSays (L.any (meetT la lb (x1, x2))) w) := by
  obtain ⟨a, cap, rfl, hcc1, hcc2, hcell⟩ := tmsR_open hL
  unfold maxLen at hcc2
  have HC := Lib.hid hcell; clear hcell hL
  have H1 := Lib.hid hc1; have H2 := Lib.hid hc2; have HX := Lib.hid hx3; clear hc1 hc2 hx3
  go_enter Tryz.func229, Tryz.ntmps229
  go_wp2
  go_loopg [8] L.length (fun g i wr => ∃ k : Nat, k ≤ L.length ∧ i = .int .i64 k ∧ Hid ((L.take k).any (meetT la lb (x1, x2)) = false) ∧ g = L.length - k ∧ Below w.heap.size w wr)
  case atStart => exact ⟨0, Nat.zero_le _, rfl, Lib.hid (by simp), rfl, Below.refl _ _⟩
  case round =>
    obtain ⟨k, hk, rfl, hS, hg, hb⟩ := hrel
    have G := Lib.hid hg; clear hg
    have B := Lib.hid hb
    by_cases hlt : k < L.length
    · obtain ⟨b, off, rfl, hcs⟩ := HC.out (by omega)
      have c0 := cell_below hb (hcs k hlt).1
      have c1 := cell_below hb (hcs k hlt).2.1
      have c2 := cell_below hb (hcs k hlt).2.2
      have F1 := Lib.hid (cell_below hb H1.out); have F2 := Lib.hid (cell_below hb H2.out)
      obtain ⟨y, hy⟩ : ∃ y, y = L[k] := ⟨_, rfl⟩
      rw [← hy] at c0 c1 c2
      have XY := Lib.hid hy
      obtain ⟨y1, y2⟩ := y
      simp only at c0 c1 c2
      obtain ⟨y3, hy3⟩ : ∃ z, z = y2 + lb := ⟨_, rfl⟩
      rw [← hy3] at c2
      have Y3 := Lib.hid hy3
      clear hy hcs hb hy3
      by_cases he : meetT la lb (x1, x2) (y1, y2) = true
      · have E := Lib.hid (any_yes (p := meetT la lb (x1, x2)) hlt (by rw [← XY.out]; exact he))
        have V := Lib.hid he
        clear he
        go_wp2_with fail
        refine (meetT_any la lb x1 x2 y1 y2 x3 y3 xb _ HX.out Y3.out F1.out F2.out).mono ?_; rintro e w2 ⟨rfl, hb2⟩
        rw [V.out]
        have B2 := Lib.hid (B.out.trans (hb2.mono B.out.size)); clear hb2
        go_wp2
        go_ret
        exact ⟨k, rfl, by rw [E.out]; simp, B2.out⟩
      · have he' : meetT la lb (x1, x2) (y1, y2) = false := by simpa using he
        have E := Lib.hid (any_no (p := meetT la lb (x1, x2)) hlt hS.out (by rw [← XY.out]; exact he'))
        have V := Lib.hid he'
        clear he he'
        go_wp2_with fail
        refine (meetT_any la lb x1 x2 y1 y2 x3 y3 xb _ HX.out Y3.out F1.out F2.out).mono ?_; rintro e w2 ⟨rfl, hb2⟩
        rw [V.out]
        have B2 := Lib.hid (B.out.trans (hb2.mono B.out.size)); clear hb2
        go_wp2
        go_roundg (L.length - (k + 1))
        case measure => rw [G.out]; omega
        case rel => exact ⟨k + 1, by omega, by go_num, E, rfl, B2.out⟩
    · obtain rfl : k = L.length := by omega
      have E := Lib.hid (show L.any (meetT la lb (x1, x2)) = false by have := hS.out; rwa [List.take_length] at this)
      clear hS hb
      go_wp2
      go_ret
      exact ⟨-1, rfl, by rw [E.out]; simp, B.out⟩

theorem contMeetI_any (la lb : Int) (x1 x2 x3 : Int) (hx3 : x3 = x2 + la) (v : Value) (L : List (Int × Int)) (xb : Nat) (w : World) (hL : TmsR lb w v L) (hc1 : w.cell? ⟨xb, 1, none⟩ = some (.int .i64 x2)) (hc2 : w.cell? ⟨xb, 2, none⟩ = some (.int .i64 x3)) :
    Calls Tryz.prog 181 #[v, .func (.func 183) #[] #[.pointer (some ⟨xb, 0, none⟩)]] w fun e w' => e = .returned (.bool (L.any (meetT la lb (x1, x2)))) ∧ Below w.heap.size w w' := by
  go_enter Tryz.func181, Tryz.ntmps181
  go_wp2_with fail
  refine (idxMeetI_any la lb x1 x2 x3 hx3 v L xb _ hL hc1 hc2).mono ?_
  rintro e w1 ⟨r, rfl, hr, hb⟩
  have R := Lib.hid hr; clear hr hc1 hc2 hx3
  go_wp2
  go_ret
  exact ⟨ret_bool R.out, hb⟩

theorem meetO_any (la lb : Int) (x1 x2 x3 : Int) (hx3 : x3 = x2 + la) (v : Value) (L : List (Int × Int)) (bb : Nat) (w : World) (hL : TmsR lb w v L) (hc : w.cell? ⟨bb, 0, none⟩ = some v) :
    Calls Tryz.prog 182 #[.agg #[.int .i64 x1, .int .i64 x2, .int .i64 x3], .pointer (some ⟨bb, 0, none⟩)] w fun e w' => e = .returned (.bool (L.any (meetT la lb (x1, x2)))) ∧ Below w.heap.size w w' := by
  obtain ⟨w1, hw1⟩ : ∃ x, x = w.alloc (.cells #[.int .i64 x1, .int .i64 x2, .int .i64 x3] 54) := ⟨_, rfl⟩
  obtain ⟨xb, hxb⟩ : ∃ x, x = w.heap.size := ⟨_, rfl⟩
  have hb1 : Below w.heap.size w w1 := by rw [hw1]; exact (Below.refl _ _).alloc (Nat.le_refl _) _
  have c1 : w1.cell? ⟨xb, 1, none⟩ = some (.int .i64 x2) := by rw [hw1, hxb]; simp
  have c2 : w1.cell? ⟨xb, 2, none⟩ = some (.int .i64 x3) := by rw [hw1, hxb]; simp
  have K := Lib.hid (contMeetI_any la lb x1 x2 x3 hx3 v L xb w1 (hL.below hb1) c1 c2)
  have hv := cell_below hb1 hc
  obtain ⟨a, cap, rfl, -, -, -⟩ := tmsR_open hL
  have B1 := Lib.hid hb1; have W1 := Lib.hid hw1; have XB := Lib.hid hxb
  clear hL hc hb1 c1 c2 hw1 hxb hx3
  go_enter Tryz.func182, Tryz.ntmps182
  go_upto_region 1 with fail
  rw [← W1.out]
  rw [← XB.out]
  go_wp2_with fail
  refine K.out.mono ?_; rintro e w2 ⟨rfl, hb2⟩
  have B2 := Lib.hid (B1.out.trans (hb2.mono B1.out.size)); clear hb2 hv
  go_wp2
  go_ret
  exact ⟨rfl, B2.out⟩

theorem idxMeetO_any (la lb : Int) (v u : Value) (K L : List (Int × Int)) (bb : Nat) (w : World) (hK : TmsR la w u K) (hL : TmsR lb w v L) (hc : w.cell? ⟨bb, 0, none⟩ = some v) :
    Calls Tryz.prog 229 #[u, .func (.func 182) #[] #[.pointer (some ⟨bb, 0, none⟩)]] w (IdxSays (K.any fun x => L.any (meetT la lb x)) w) := by
  obtain ⟨a, cap, rfl, hcc1, hcc2, hcell⟩ := tmsR_open hK
  unfold maxLen at hcc2
  have HC := Lib.hid hcell; clear hcell hK
  have H1 := Lib.hid hc; have HL := Lib.hid hL; clear hc hL
  obtain ⟨p, hp⟩ : ∃ p : Int × Int → Bool, p = fun x => L.any (meetT la lb x) := ⟨_, rfl⟩
  have PX := Lib.hid (show ∀ x, L.any (meetT la lb x) = p x by rw [hp]; exact fun _ => rfl)
  rw [← hp]
  clear hp
  go_enter Tryz.func229, Tryz.ntmps229
  go_wp2
  go_loopg [8] K.length (fun g i wr => ∃ k : Nat, k ≤ K.length ∧ i = .int .i64 k ∧ Hid ((K.take k).any p = false) ∧ g = K.length - k ∧ Below w.heap.size w wr)
  case atStart => exact ⟨0, Nat.zero_le _, rfl, Lib.hid (by simp), rfl, Below.refl _ _⟩
  case round =>
    obtain ⟨k, hk, rfl, hS, hg, hb⟩ := hrel
    have G := Lib.hid hg; clear hg
    have B := Lib.hid hb
    by_cases hlt : k < K.length
    · obtain ⟨b, off, rfl, hcs⟩ := HC.out (by omega)
      have c0 := cell_below hb (hcs k hlt).1
      have c1 := cell_below hb (hcs k hlt).2.1
      have c2 := cell_below hb (hcs k hlt).2.2
      have F1 := Lib.hid (cell_below hb H1.out); have FL := Lib.hid (HL.out.below hb)
      obtain ⟨y, hy⟩ : ∃ y, y = K[k] := ⟨_, rfl⟩
      rw [← hy] at c0 c1 c2
      have XY := Lib.hid hy
      obtain ⟨y1, y2⟩ := y
      simp only at c0 c1 c2
      obtain ⟨y3, hy3⟩ : ∃ z, z = y2 + la := ⟨_, rfl⟩
      rw [← hy3] at c2
      have Y3 := Lib.hid hy3
      clear hy hcs hb hy3
      by_cases he : p (y1, y2) = true
      · have E := Lib.hid (any_yes (p := p) hlt (by rw [← XY.out]; exact he))
        have V := Lib.hid he
        clear he
        go_wp2_with fail
        refine (meetO_any la lb y1 y2 y3 Y3.out v L bb _ FL.out F1.out).mono ?_; rintro e w2 ⟨rfl, hb2⟩
        rw [PX.out, V.out]
        have B2 := Lib.hid (B.out.trans (hb2.mono B.out.size)); clear hb2
        go_wp2
        go_ret
        exact ⟨k, rfl, by rw [E.out]; simp, B2.out⟩
      · have he' : p (y1, y2) = false := by simpa using he
        have E := Lib.hid (any_no (p := p) hlt hS.out (by rw [← XY.out]; exact he'))
        have V := Lib.hid he'
        clear he he'
        go_wp2_with fail
        refine (meetO_any la lb y1 y2 y3 Y3.out v L bb _ FL.out F1.out).mono ?_; rintro e w2 ⟨rfl, hb2⟩
        rw [PX.out, V.out]
        have B2 := Lib.hid (B.out.trans (hb2.mono B.out.size)); clear hb2
        go_wp2
        go_roundg (K.length - (k + 1))
        case measure => rw [G.out]; omega
        case rel => exact ⟨k + 1, by omega, by go_num, E, rfl, B2.out⟩
    · obtain rfl : k = K.length := by omega
      have E := Lib.hid (show K.any p = false by have := hS.out; rwa [List.take_length] at this)
      clear hS hb
      go_wp2
      go_ret
      exact ⟨-1, rfl, by rw [E.out]; simp, B.out⟩

theorem contMeetO_any (la lb : Int) (v u : Value) (K L : List (Int × Int)) (bb : Nat) (w : World) (hK : TmsR la w u K) (hL : TmsR lb w v L) (hc : w.cell? ⟨bb, 0, none⟩ = some v) :
    Calls Tryz.prog 181 #[u, .func (.func 182) #[] #[.pointer (some ⟨bb, 0, none⟩)]] w fun e w' => e = .returned (.bool (K.any fun x => L.any (meetT la lb x))) ∧ Below w.heap.size w w' := by
  go_enter Tryz.func181, Tryz.ntmps181
  go_wp2_with fail
  refine (idxMeetO_any la lb v u K L bb _ hK hL hc).mono ?_
  rintro e w1 ⟨r, rfl, hr, hb⟩
  have R := Lib.hid hr; clear hr hK hL hc
  go_wp2
  go_ret
  exact ⟨ret_bool R.out, hb⟩

theorem meet_any (la lb : Int) (u v : Value) (K L : List (Int × Int)) (w : World) (hK : TmsR la w u K) (hL : TmsR lb w v L) :
    Calls Tryz.prog 109 #[u, v] w fun e w' => e = .returned (.bool (meetB (la, K) (lb, L))) ∧ Below w.heap.size w w' := by
  obtain ⟨w1, hw1⟩ : ∃ x, x = w.alloc (.cells #[v] 47) := ⟨_, rfl⟩
  obtain ⟨bb, hbb⟩ : ∃ x, x = w.heap.size := ⟨_, rfl⟩
  have hb1 : Below w.heap.size w w1 := by rw [hw1]; exact (Below.refl _ _).alloc (Nat.le_refl _) _
  have c1 : w1.cell? ⟨bb, 0, none⟩ = some v := by rw [hw1, hbb]; simp
  have KK := Lib.hid (contMeetO_any la lb v u K L bb w1 (hK.below hb1) (hL.below hb1) c1)
  obtain ⟨a, cap, rfl, -, -, -⟩ := tmsR_open hL
  obtain ⟨a2, cap2, rfl, -, -, -⟩ := tmsR_open hK
  have E := Lib.hid (show meetB (la, K) (lb, L) = K.any fun x => L.any (meetT la lb x) from rfl)
  have B1 := Lib.hid hb1; have W1 := Lib.hid hw1; have XB := Lib.hid hbb
  clear hK hL hb1 c1 hw1 hbb
  go_enter Tryz.func109, Tryz.ntmps109
  go_upto_region 1 with fail
  rw [← W1.out]
  rw [← XB.out]
  go_wp2_with fail
  refine KK.out.mono ?_; rintro e w2 ⟨rfl, hb2⟩
  have B2 := Lib.hid (B1.out.trans (hb2.mono B1.out.size)); clear hb2
  rw [← E.out]
  go_wp2
  go_ret
  exact ⟨rfl, B2.out⟩

end Go.Proofs.YtgelojhpanbnaaaGreatDoor
