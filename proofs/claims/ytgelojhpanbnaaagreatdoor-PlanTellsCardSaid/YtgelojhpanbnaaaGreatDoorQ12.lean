/- Texts joined into one (a claim has at most 60 files): seq.Each's iterator: the days of a rule, one by one; seq.Each's iterator: its walk. -/
import Derived.Test.YtgelojhpanbnaaaGreatDoorQ11
import Derived.Sort.LoopGhostIn
import Derived.Outline
namespace Go.Proofs.YtgelojhpanbnaaaGreatDoor
open Go.RowKit Go.Shelf
set_option linter.unusedSimpArgs false
set_option linter.unusedVariables false
attribute [local go_sem] Oper.semAt_some

def RlC (W : World) (rb : Nat) (fr ev ct ti : Int) (vm vd vw vp : Value) : Prop :=
  W.cell? ⟨rb, 0, none⟩ = some (.int .i64 fr) ∧ W.cell? ⟨rb, 1, none⟩ = some (.int .i64 ev) ∧ W.cell? ⟨rb, 2, none⟩ = some (.int .i64 ct) ∧ W.cell? ⟨rb, 3, none⟩ = some (.int .i64 ti) ∧
    W.cell? ⟨rb, 4, none⟩ = some vm ∧ W.cell? ⟨rb, 5, none⟩ = some vd ∧ W.cell? ⟨rb, 6, none⟩ = some vw ∧ W.cell? ⟨rb, 7, none⟩ = some vp

theorem RlC.same {W W' : World} {rb : Nat} {fr ev ct ti : Int} {vm vd vw vp : Value} (h : RlC W rb fr ev ct ti vm vd vw vp) (hb : W'.heap[rb]? = W.heap[rb]?) : RlC W' rb fr ev ct ti vm vd vw vp := by
  obtain ⟨a0, a1, a2, a3, a4, a5, a6, a7⟩ := h
  exact ⟨(cell_block hb).trans a0, (cell_block hb).trans a1, (cell_block hb).trans a2, (cell_block hb).trans a3, (cell_block hb).trans a4, (cell_block hb).trans a5, (cell_block hb).trans a6, (cell_block hb).trans a7⟩

structure EachSt (wB W : World) (Pr : Nat → Prop) (r rb sb yb l j : Nat) (fr ev ct ti st : Int) (vm vd vw vp : Value) : Prop where
  below : Below wB.heap.size wB W
  told : W.cell? ⟨r, 0, none⟩ = some (.int .i64 j) ∧ W.frozen? ⟨r, 0, none⟩ = false
  rule : RlC W rb fr ev ct ti vm vd vw vp
  start : W.cell? ⟨sb, 0, none⟩ = some (.int .i64 st)
  yield : W.cell? ⟨yb, 0, none⟩ = some (.func (.yield l) #[] #[])
  mine : Pr r ∧ Pr rb ∧ Pr sb ∧ Pr yb
  high : wB.heap.size ≤ r ∧ r < W.heap.size
  apart : rb ≠ r ∧ yb ≠ r ∧ sb ≠ r

theorem EachSt.tellAt {wB W : World} {Pr : Nat → Prop} {r rb sb yb l j : Nat} {fr ev ct ti st : Int} {vm vd vw vp : Value} (h : EachSt wB W Pr r rb sb yb l j fr ev ct ti st vm vd vw vp) (hj : j ≤ 200000) : TellAt W r rb yb l j ti ct :=
  ⟨h.told, ⟨h.rule.2.2.2.1, h.rule.2.2.1⟩, h.yield, ⟨h.apart.1, h.apart.2.1⟩, hj⟩

theorem setCell_block (W : World) (r k : Nat) (v : Value) (h : k ≠ r) : (W.setCell ⟨r, 0, none⟩ v).heap[k]? = W.heap[k]? := Below.heap_setCell _ _ _ _ h

theorem stepP_set {B : Nat} {Pr : Nat → Prop} (W : World) (r : Nat) (v : Value) (h : B ≤ r) (hr : Pr r) : StepP B Pr W (W.setCell ⟨r, 0, none⟩ v) :=
  ⟨(Below.refl _ _).setCell (p := ⟨r, 0, none⟩) h _, fun k _ hk => setCell_block W r k v (fun e => hk (by rw [e]; exact hr))⟩

theorem stepP_below {B : Nat} {Pr : Nat → Prop} {W W' : World} (hb : Below W.heap.size W W') (h : B ≤ W.heap.size) : StepP B Pr W W' :=
  ⟨hb.mono h, fun k hk _ => hb.block k hk⟩

theorem EachSt.next {wB W W' : World} {Pr : Nat → Prop} {r rb sb yb l j : Nat} {fr ev ct ti st : Int} {vm vd vw vp : Value} (h : EachSt wB W Pr r rb sb yb l j fr ev ct ti st vm vd vw vp)
    (hk : KeepP wB.heap.size Pr (W.setCell ⟨r, 0, none⟩ (.int .i64 ((j : Int) + 1))) W') : EachSt wB W' Pr r rb sb yb l (j + 1) fr ev ct ti st vm vd vw vp := by
  obtain ⟨m1, m2, m3, m4⟩ := h.mine
  have hsz : (W.setCell ⟨r, 0, none⟩ (.int .i64 ((j : Int) + 1))).heap.size = W.heap.size := by simp [World.setCell]
  have e : ∀ k, k ≠ r → Pr k → k < W.heap.size → W'.heap[k]? = W.heap[k]? := fun k hkr hp hlk => (hk.kept k (by rw [hsz]; exact hlk) hp).trans (setCell_block W r k _ hkr)
  have l2 := World.block_lt_of_cell? W _ h.rule.1
  have l3 := World.block_lt_of_cell? W _ h.start
  have l4 := World.block_lt_of_cell? W _ h.yield
  refine ⟨(h.below.trans ((Below.refl _ _).setCell (p := ⟨r, 0, none⟩) h.high.1 _)).trans hk.below, ⟨?_, ?_⟩, h.rule.same (e rb h.apart.1 m2 l2), (cell_block (e sb h.apart.2.2 m3 l3)).trans h.start, (cell_block (e yb h.apart.2.1 m4 l4)).trans h.yield, h.mine, ⟨h.high.1, ?_⟩, h.apart⟩
  · rw [cell_block (hk.kept r (by rw [hsz]; exact h.high.2) m1)]
    rw [World.cell?_setCell_same' _ _ _ (by rw [h.told.1]; rfl)]
    rfl
  · rw [frozen_block (hk.kept r (by rw [hsz]; exact h.high.2) m1), World.frozen?_setCell]; exact h.told.2
  · have := hk.below.size
    simp [World.setCell] at this
    have := h.high.2
    omega

theorem EachSt.later {wB W W' : World} {Pr Pr' : Nat → Prop} {r rb sb yb l j : Nat} {fr ev ct ti st : Int} {vm vd vw vp : Value} (h : EachSt wB W Pr r rb sb yb l j fr ev ct ti st vm vd vw vp) (hB : wB.heap.size ≤ W.heap.size)
    (hb : Below W.heap.size W W') (hp : ∀ k, Pr k → Pr' k) : EachSt wB W' Pr' r rb sb yb l j fr ev ct ti st vm vd vw vp := by
  obtain ⟨m1, m2, m3, m4⟩ := h.mine
  obtain ⟨a0, a1, a2, a3, a4, a5, a6, a7⟩ := h.rule
  exact ⟨h.below.trans (hb.mono hB), ⟨cell_below hb h.told.1, (hb.frozen (p := ⟨r, 0, none⟩) h.high.2).trans h.told.2⟩, ⟨cell_below hb a0, cell_below hb a1, cell_below hb a2, cell_below hb a3, cell_below hb a4, cell_below hb a5, cell_below hb a6, cell_below hb a7⟩,
    cell_below hb h.start, cell_below hb h.yield, ⟨hp _ m1, hp _ m2, hp _ m3, hp _ m4⟩, ⟨h.high.1, Nat.lt_of_lt_of_le h.high.2 hb.size⟩, h.apart⟩

def ToldSays (wB W : World) (Pr : Nat → Prop) (r rb sb yb l : Nat) (fr ev ct ti st : Int) (vm vd vw vp : Value) (J Jx : (Nat → Prop) → List Int → World → Prop) (pre : List Int) (x : Int) (ok : Bool) (e : Ending) (W' : World) : Prop :=
  (ok = true ∧ e = .returned (.bool true) ∧ J Pr (pre ++ [x]) W' ∧ EachSt wB W' Pr r rb sb yb l (pre.length + 1) fr ev ct ti st vm vd vw vp ∧ ∀ k, k < W.heap.size → Pr k → k ≠ r → W'.heap[k]? = W.heap[k]?) ∨
  (ok = true ∧ e = .returned (.bool false) ∧ Jx Pr (pre ++ [x]) W') ∨
  (ok = false ∧ e = .returned (.bool false) ∧ J Pr pre W')

theorem told_any (n : Nat) (wB W : World) (Pr : Nat → Prop) (r rb sb yb l : Nat) (fr ev ct ti st : Int) (vm vd vw vp : Value) (J Jx : (Nat → Prop) → List Int → World → Prop) (N : Nat) (pre : List Int) (x : Int)
    (hJ : AbP wB.heap.size J) (hY : ∀ Pr pre x W1, J Pr pre W1 → pre.length < N → YieldAt Fence.wide (n - 1) Tryz.prog l #[.int .i64 x] W1 fun e W' =>
      (e = .returned (.bool true) ∧ J Pr (pre ++ [x]) W' ∧ KeepP wB.heap.size Pr W1 W') ∨ (e = .returned (.bool false) ∧ Jx Pr (pre ++ [x]) W'))
    (hE : EachSt wB W Pr r rb sb yb l pre.length fr ev ct ti st vm vd vw vp) (h0 : J Pr pre W) (hN : (okT ti x && okC ct pre.length) = true → pre.length < N) (hl : pre.length ≤ 200000) (m : Nat) :
    CallsIn Fence.wide m Tryz.prog 145 #[.int .i64 x, .pointer (some ⟨r, 0, none⟩), .pointer (some ⟨rb, 0, none⟩), .pointer (some ⟨yb, 0, none⟩)] W
      (ToldSays wB W Pr r rb sb yb l fr ev ct ti st vm vd vw vp J Jx pre x (okT ti x && okC ct pre.length)) := by
  have hs : J Pr pre (W.setCell ⟨r, 0, none⟩ (.int .i64 ((pre.length : Int) + 1))) := hJ _ _ _ _ _ h0 (stepP_set W r _ hE.high.1 hE.mine.1) (fun k hk => .inl hk)
  cases hk : (okT ti x && okC ct pre.length)
  · refine (tell_no m x ti ct r rb yb l pre.length W (hE.tellAt hl) hk).mono ?_
    rintro e W' ⟨rfl, rfl⟩
    exact .inr (.inr ⟨rfl, rfl, hs⟩)
  · refine (tell_yes m x ti ct r rb yb l pre.length W (hE.tellAt hl) hk (fun b W' => (b = true ∧ J Pr (pre ++ [x]) W' ∧ EachSt wB W' Pr r rb sb yb l (pre.length + 1) fr ev ct ti st vm vd vw vp ∧ ∀ k, k < W.heap.size → Pr k → k ≠ r → W'.heap[k]? = W.heap[k]?) ∨ (b = false ∧ Jx Pr (pre ++ [x]) W')) (yield_any (m - 1) (YieldAt.mono (hY Pr pre x _ hs (hN hk)) ?_))).mono ?_
    · rintro e W' (⟨rfl, h1, h2⟩ | ⟨rfl, h1⟩)
      · exact ⟨true, rfl, .inl ⟨rfl, h1, hE.next h2, fun k hlk hp hkr => (h2.kept k (by simpa [World.setCell] using hlk) hp).trans (setCell_block W r k _ hkr)⟩⟩
      · exact ⟨false, rfl, .inr ⟨rfl, h1⟩⟩
    · rintro e W' ⟨b, rfl, ⟨rfl, h1, h2, h3⟩ | ⟨rfl, h1⟩⟩
      · exact .inl ⟨rfl, rfl, h1, h2, h3⟩
      · exact .inr (.inl ⟨rfl, rfl, h1⟩)

end Go.Proofs.YtgelojhpanbnaaaGreatDoor

namespace Go.Proofs.YtgelojhpanbnaaaGreatDoor
open Go.RowKit Go.Shelf
set_option linter.unusedSimpArgs false
set_option linter.unusedVariables false
attribute [local go_sem] Oper.semAt_some

set_option maxRecDepth 100000 in
set_option maxHeartbeats 4000000 in
theorem each_seq (n : Nat) (fr ev ct ti y m d st : Int) (vm vd vw vp : Value) (mo da : List Int) (we : List (Int × Int)) (pk : List Int) (wB w : World) (hw : Months wB) (h1 : IntsR wB vm mo) (h2 : IntsR wB vd da) (h3 : PairsR wB vw we) (h4 : IntsR wB vp pk)
    (hd : Cal.dateB y m d = true) (hst : Cal.num y m d = st) (hF : ruleF fr ev ct ti mo da we pk = 0) (rb sb : Nat) (hwB : Below wB.heap.size wB w) (hrb : RlC w rb fr ev ct ti vm vd vw vp) (hsb : w.cell? ⟨sb, 0, none⟩ = some (.int .i64 st)) :
    SeqP Fence.wide n Tryz.prog 144 #[.pointer (some ⟨rb, 0, none⟩), .pointer (some ⟨sb, 0, none⟩)] wB.heap.size (fun k => k = rb ∨ k = sb)
      (fun xs => xs = eachL fr ev ct ti y m d mo da we pk st) (fun pre => pre <+: eachL fr ev ct ti y m d mo da we pk st) (eachL fr ev ct ti y m d mo da we pk st).length w := by
  intro l J Jx W hW hJ hJx hY h0
  obtain ⟨am, km, rfl, _, _, _⟩ := intsR_open h1
  obtain ⟨ad, kd, rfl, _, _, _⟩ := intsR_open h2
  obtain ⟨aw, kw, rfl, _, _, _⟩ := pairsR_open h3
  obtain ⟨ap, kp, rfl, _, _, _⟩ := intsR_open h4
  have he := (ruleF_0 hF).2.1
  have hlen := eachL_len hd hst he (fr := fr) (ct := ct) (ti := ti) (mo := mo) (da := da) (we := we) (pk := pk)
  obtain ⟨E, hE⟩ : ∃ E, E = eachL fr ev ct ti y m d mo da we pk st := ⟨_, rfl⟩
  rw [← hE] at hlen hY ⊢
  obtain ⟨yb, hyb⟩ : ∃ k, k = W.heap.size := ⟨_, rfl⟩
  obtain ⟨r, hr⟩ : ∃ k, k = W.heap.size + 1 := ⟨_, rfl⟩
  obtain ⟨W1, hW1⟩ : ∃ x, x = (W.alloc (.cells #[.func (.yield l) #[] #[]] 103)).alloc (.cells #[.int .i64 0] 3) := ⟨_, rfl⟩
  have hb1 : Below W.heap.size W W1 := by rw [hW1]; exact ((Below.refl _ _).alloc (Nat.le_refl _) _).alloc (by simp) _
  have hrl : rb < w.heap.size := World.block_lt_of_cell? w _ hrb.1
  have hsl : sb < w.heap.size := World.block_lt_of_cell? w _ hsb
  have hWB : wB.heap.size ≤ W.heap.size := Nat.le_trans hwB.size hW.size
  have hWs := hW.size
  have hW1s : W1.heap.size = W.heap.size + 2 := by rw [hW1]; simp
  have s1 : EachSt wB W1 (fun k => (k = rb ∨ k = sb) ∨ (W.heap.size ≤ k ∧ k < W1.heap.size)) r rb sb yb l 0 fr ev ct ti st (.slice am mo.length km) (.slice ad da.length kd) (.slice aw we.length kw) (.slice ap pk.length kp) := by
    refine ⟨(hwB.trans (hW.mono hwB.size)).trans (hb1.mono hWB), ⟨?_, ?_⟩, (hrb.same (hW.block rb hrl)).same (hb1.block rb (by omega)), ?_, ?_, ⟨.inr ⟨by omega, by omega⟩, .inl (.inl rfl), .inl (.inr rfl), .inr ⟨by omega, by omega⟩⟩, ⟨by omega, ?_⟩, ⟨by omega, by omega, by omega⟩⟩
    · rw [hW1, hr]; simp
    · rw [hW1, hr]; simp
    · exact (cell_block (hb1.block sb (by omega))).trans ((cell_block (hW.block sb hsl)).trans hsb)
    · rw [hW1, hyb]; simp
    · rw [hW1, hr]; simp
  have j1 : J (fun k => (k = rb ∨ k = sb) ∨ (W.heap.size ≤ k ∧ k < W1.heap.size)) [] W1 := hJ _ _ _ _ _ h0 (stepP_below hb1 hWB) (fun k hk => hk)
  have c0 : W.cell? ⟨sb, 0, none⟩ = some (.int .i64 st) := (cell_block (hW.block sb hsl)).trans hsb
  have hN1 : ∀ (x : Int) (pre rem : List Int), E = pre ++ eachG ti ct pre.length (x :: rem) → (okT ti x && okC ct pre.length) = true → pre.length < E.length := by
    intro x pre rem he hk
    rw [he, eachG_yes hk]; simp
  have hNl : ∀ (x : Int) (pre rem : List Int), E = pre ++ eachG ti ct pre.length (x :: rem) → pre.length ≤ 200000 := by
    intro x pre rem he
    have : pre.length ≤ E.length := by rw [he]; simp
    omega
  have E0 : E = [] ++ eachG ti ct ([] : List Int).length (st :: restL (perD fr ev y m d mo da we pk st) st 0) := hE
  have t0 := told_any n wB W1 _ r rb sb yb l fr ev ct ti st _ _ _ _ J Jx E.length [] st hJ hY s1 j1 (hN1 _ _ _ E0) (by simp) (n - 1)
  have hsW : sb < W.heap.size := by omega
  have T0 := Lib.hid t0; have S1 := Lib.hid s1; have J1 := Lib.hid j1; have HN := Lib.hid hN1; have HL := Lib.hid hNl; have EE := Lib.hid E0; have W1E := Lib.hid hW1; have YB := Lib.hid hyb; have RB := Lib.hid hr
  have HW := Lib.hid hw; have I1 := Lib.hid h1; have I2 := Lib.hid h2; have I3 := Lib.hid h3; have I4 := Lib.hid h4; have D := Lib.hid hd; have ST := Lib.hid hst; have FF := Lib.hid hF; have LE := Lib.hid hlen
  have AJ := Lib.hid hJ; have AX := Lib.hid hJx; have YY := Lib.hid hY; have BB := Lib.hid hWB
  clear t0 s1 j1 hN1 hNl E0 hW1 hyb hr hw h1 h2 h3 h4 hd hst hF hlen hJ hJx hY h0 hb1 hrl hsl hWs hW1s hW hsb hrb hwB hE he hWB
  refine callsIn_of_wp Tryz.func144 rfl trivial ?_ rfl
  simp only [Tryz.ntmps144, List.size_toArray, List.length_cons, List.length_nil, Nat.reduceAdd, Nat.reduceSub, Array.replicate_succ, Array.replicate_zero, List.push_toArray, List.append_toArray, List.nil_append, List.cons_append]
  gi_wp2_with fail
  refine ⟨trivial, fun h => (by cases h), ?_⟩
  rw [← W1E.out, ← RB.out, ← YB.out]
  refine T0.out.mono ?_
  clear c0 hsW
  rintro e W2 (⟨hk, rfl, hj, hs, _⟩ | ⟨hk, rfl, hx⟩ | ⟨hk, rfl, hj⟩)
  · have J2 := Lib.hid hj; have S2 := Lib.hid hs
    have E2 := Lib.hid (show E = [st] ++ eachG ti ct ([st] : List Int).length (restL (perD fr ev y m d mo da we pk st) st 0) by rw [EE.out, eachG_yes hk]; rfl)
    clear hj hs hk
    gi_wp2_with fail
    gi_loopg [6] 109574 (fun g kv wx => ∃ (k : Int) (Pr : Nat → Prop) (pre : List Int), kv = .int .i64 k ∧ (0 ≤ k ∧ k ≤ 109574) ∧ g = (109574 - k).toNat ∧ J Pr pre wx ∧
      EachSt wB wx Pr r rb sb yb l pre.length fr ev ct ti st (.slice am mo.length km) (.slice ad da.length kd) (.slice aw we.length kw) (.slice ap pk.length kp) ∧ E = pre ++ eachG ti ct pre.length (restL (perD fr ev y m d mo da we pk st) st k))
    case atStart => exact ⟨0, _, [st], rfl, ⟨by omega, by omega⟩, rfl, J2.out, S2.out, E2.out⟩
    case round =>
      obtain ⟨k, Pr, pre, rfl, ⟨k0, k1⟩, hg, hj, hs, he⟩ := hrel
      have G := Lib.hid hg; have JK := Lib.hid hj; have SK := Lib.hid hs; have EK := Lib.hid he
      clear hg hj hs he
      obtain ⟨c0, c1, c2, c3, c4, c5, c6, c7⟩ := SK.out.rule
      have cs := SK.out.start
      cases hp : perS fr ev y m d k with
      | none =>
        have R0 := Lib.hid (restL_none (st := st) (perD_none (st := st) (mo := mo) (da := da) (we := we) (pk := pk) hp))
        have P := Lib.hid hp; clear hp
        gi_wp2_with fail
        refine ⟨trivial, fun h => (by cases h), ?_⟩
        refine (callsIn_wide.2 (pof_no fr ev ct ti k y m d st _ _ _ _ mo da we pk _ (HW.out.below SK.out.below) (I1.out.below SK.out.below) (I2.out.below SK.out.below) (I3.out.below SK.out.below) (I4.out.below SK.out.below) D.out ST.out FF.out P.out)).mono ?_
        rintro e W3 ⟨rfl, hb3⟩
        have J3 := Lib.hid (AJ.out _ _ _ _ _ JK.out (stepP_below hb3 (by have := SK.out.high; omega)) (fun k hk => .inl hk))
        clear hb3 c0 c1 c2 c3 c4 c5 c6 c7 cs
        gi_wp2
        refine bodyPost_ret (results_none rfl _ _ _) rfl ?_
        exact ⟨⟨_, rfl⟩, .inl ⟨_, pre, by rw [EK.out, R0.out]; simp [eachG], J3.out⟩⟩
      | some ab =>
        obtain ⟨a, b⟩ := ab
        obtain ⟨L, hL⟩ : ∃ L, L = perL fr mo da we pk st a b := ⟨_, rfl⟩
        have hkk : k ≤ 109573 := by
          have := hp; unfold perS at this
          split at this
          · cases this
          · omega
        have R0 := Lib.hid (restL_some (st := st) (perD_some (st := st) (mo := mo) (da := da) (we := we) (pk := pk) hp) hkk)
        rw [← hL] at R0
        have P := Lib.hid hp; have LL := Lib.hid hL; clear hp hL
        gi_wp2_with fail
        refine ⟨trivial, fun h => (by cases h), ?_⟩
        refine (callsIn_wide.2 (pof_yes fr ev ct ti k a b y m d st _ _ _ _ mo da we pk _ (HW.out.below SK.out.below) (I1.out.below SK.out.below) (I2.out.below SK.out.below) (I3.out.below SK.out.below) (I4.out.below SK.out.below) D.out ST.out FF.out P.out)).mono ?_
        rintro e W3 ⟨v, rfl, ⟨hv, hf⟩, hb3⟩
        rw [← LL.out] at hv
        obtain ⟨va, vc, rfl, v1, v2, hvc⟩ := intsR_open hv
        unfold maxLen at v2
        have J3 := Lib.hid (AJ.out _ (fun q => Pr q ∨ (wr.heap.size ≤ q ∧ q < W3.heap.size)) _ _ _ JK.out (stepP_below hb3 (by have := SK.out.high; omega)) (fun k hk => hk))
        have S3 := Lib.hid (SK.out.later (Pr' := fun q => Pr q ∨ (wr.heap.size ≤ q ∧ q < W3.heap.size)) (by have := SK.out.high; omega) hb3 (fun k hk => .inl hk))
        have VC := Lib.hid (show 0 < L.length → ∃ lb off, va = some ⟨lb, off, none⟩ ∧ ((Pr lb ∨ (wr.heap.size ≤ lb ∧ lb < W3.heap.size)) ∧ lb ≠ r) ∧ ∀ j (hj : j < L.length), W3.cell? ⟨lb, off + j, none⟩ = some (.int .i64 L[j]) from fun h => by
          obtain ⟨lb, off, rfl, hc⟩ := hvc h
          exact ⟨lb, off, rfl, ⟨.inr ⟨hf lb rfl, World.block_lt_of_cell? W3 _ (hc 0 h)⟩, by have := hf lb rfl; have := SK.out.high; omega⟩, hc⟩)
        have E3 := Lib.hid (show E = pre ++ eachG ti ct pre.length ((L.drop 0).filter (fun n => decide (st < n)) ++ restL (perD fr ev y m d mo da we pk st) st (k + 1)) by rw [EK.out, R0.out, List.drop_zero])
        obtain ⟨Pq, hPq⟩ : ∃ Pq : Nat → Prop, Pq = fun q => Pr q ∨ (wr.heap.size ≤ q ∧ q < W3.heap.size) := ⟨_, rfl⟩
        have PQ := Lib.hid hPq
        rw [← hPq] at J3 S3
        have VC2 := Lib.hid (show 0 < L.length → ∃ lb off, va = some ⟨lb, off, none⟩ ∧ (Pq lb ∧ lb ≠ r) ∧ ∀ j (hj : j < L.length), W3.cell? ⟨lb, off + j, none⟩ = some (.int .i64 L[j]) from fun h => by rw [hPq]; exact VC.out h)
        clear hPq hb3 hv hf hvc VC c0 c1 c2 c3 c4 c5 c6 c7 cs
        gi_wp2_with fail
        gi_loopg [29] L.length (fun g jv wy => ∃ (j : Nat) (pre2 : List Int), jv = .int .i64 j ∧ j ≤ L.length ∧ g = L.length - j ∧ J Pq pre2 wy ∧
          EachSt wB wy Pq r rb sb yb l pre2.length fr ev ct ti st (.slice am mo.length km) (.slice ad da.length kd) (.slice aw we.length kw) (.slice ap pk.length kp) ∧
          E = pre2 ++ eachG ti ct pre2.length ((L.drop j).filter (fun n => decide (st < n)) ++ restL (perD fr ev y m d mo da we pk st) st (k + 1)) ∧
          (0 < L.length → ∃ lb off, va = some ⟨lb, off, none⟩ ∧ (Pq lb ∧ lb ≠ r) ∧ ∀ j (hj : j < L.length), wy.cell? ⟨lb, off + j, none⟩ = some (.int .i64 L[j])))
        case atStart => exact ⟨0, pre, rfl, Nat.zero_le _, rfl, J3.out, S3.out, E3.out, VC2.out⟩
        case round =>
          obtain ⟨j, pre2, rfl, hj, hg, hJ2, hs2, he2, hl2⟩ := hrel
          have G2 := Lib.hid hg; have J4 := Lib.hid hJ2; have S4 := Lib.hid hs2; have E4 := Lib.hid he2; have L4 := Lib.hid hl2
          clear hg hJ2 hs2 he2 hl2
          by_cases hlt : j < L.length
          · obtain ⟨lb, lo, rfl, hPl, hcs⟩ := L4.out (by omega)
            have c0 := hcs j hlt
            have cs := S4.out.start
            obtain ⟨x, hx⟩ : ∃ x, x = L[j] := ⟨_, rfl⟩
            rw [← hx] at c0
            have X := Lib.hid (show L.drop j = x :: L.drop (j + 1) by rw [hx]; exact List.drop_eq_getElem_cons hlt)
            have PL := Lib.hid hPl; have CS := Lib.hid hcs
            clear hx hcs hPl
            cases hxs : decide (st < x)
            · have E5 := Lib.hid (show E = pre2 ++ eachG ti ct pre2.length ((L.drop (j + 1)).filter (fun n => decide (st < n)) ++ restL (perD fr ev y m d mo da we pk st) st (k + 1)) by
                rw [E4.out, X.out, List.filter_cons_of_neg (by rw [hxs]; simp)])
              gi_wp2
              refine ⟨fun _ h => (by cases h), ?_⟩
              gi_wp2
              go_roundg (L.length - (j + 1))
              case measure => rw [G2.out]; omega
              case rel => exact ⟨j + 1, pre2, by go_num, by omega, rfl, J4.out, S4.out, E5.out, fun _ => ⟨lb, lo, rfl, PL.out, CS.out⟩⟩
            · have E5 := Lib.hid (show E = pre2 ++ eachG ti ct pre2.length (x :: ((L.drop (j + 1)).filter (fun n => decide (st < n)) ++ restL (perD fr ev y m d mo da we pk st) st (k + 1))) by
                rw [E4.out, X.out, List.filter_cons_of_pos (by rw [hxs]), List.cons_append])
              have TD := Lib.hid (told_any n wB wr Pq r rb sb yb l fr ev ct ti st _ _ _ _ J Jx E.length pre2 x AJ.out YY.out S4.out J4.out (HN.out _ _ _ E5.out) (HL.out _ _ _ E5.out) (n - 1))
              gi_wp2_with fail
              refine ⟨trivial, fun h => (by cases h), ?_⟩
              refine TD.out.mono ?_
              rintro e W5 (⟨hk, rfl, hj5, hs5, hkp⟩ | ⟨hk, rfl, hx5⟩ | ⟨hk, rfl, hj5⟩)
              · have E6 := Lib.hid (show E = (pre2 ++ [x]) ++ eachG ti ct (pre2 ++ [x]).length ((L.drop (j + 1)).filter (fun n => decide (st < n)) ++ restL (perD fr ev y m d mo da we pk st) st (k + 1)) by
                  rw [E5.out, eachG_yes hk, List.length_append, List.append_assoc]; rfl)
                have J6 := Lib.hid hj5; have S6 := Lib.hid (show EachSt wB W5 Pq r rb sb yb l (pre2 ++ [x]).length fr ev ct ti st (.slice am mo.length km) (.slice ad da.length kd) (.slice aw we.length kw) (.slice ap pk.length kp) by rw [List.length_append]; exact hs5)
                have CS6 := Lib.hid (show ∀ j (hj : j < L.length), W5.cell? ⟨lb, lo + j, none⟩ = some (.int .i64 L[j]) from fun j hj => (cell_block (hkp lb (World.block_lt_of_cell? wr _ (CS.out j hj)) PL.out.1 PL.out.2)).trans (CS.out j hj))
                clear hj5 hs5 hk hkp c0 cs
                gi_wp2
                go_roundg (L.length - (j + 1))
                case measure => rw [G2.out]; omega
                case rel => exact ⟨j + 1, pre2 ++ [x], by go_num, by omega, rfl, J6.out, S6.out, E6.out, fun _ => ⟨lb, lo, rfl, PL.out, CS6.out⟩⟩
              · have E6 := Lib.hid (show pre2 ++ [x] <+: E by rw [E5.out, eachG_yes hk]; exact ⟨_, by rw [List.append_assoc]; rfl⟩)
                have X6 := Lib.hid hx5
                clear hk hx5 c0 cs
                gi_wp2
                refine bodyPost_ret (results_none rfl _ _ _) rfl ?_
                exact ⟨⟨_, rfl⟩, .inr ⟨_, _, E6.out, X6.out⟩⟩
              · have E6 := Lib.hid (show pre2 = E by rw [E5.out, eachG_no hk, List.append_nil])
                have J6 := Lib.hid hj5
                clear hk hj5 c0 cs
                gi_wp2
                refine bodyPost_ret (results_none rfl _ _ _) rfl ?_
                exact ⟨⟨_, rfl⟩, .inl ⟨_, _, E6.out, J6.out⟩⟩
          · have hje : j = L.length := by omega
            have E5 := Lib.hid (show E = pre2 ++ eachG ti ct pre2.length (restL (perD fr ev y m d mo da we pk st) st (k + 1)) by
              rw [E4.out, hje, List.drop_length]; rfl)
            have hge : ¬ (j : Int) < (L.length : Int) := by omega
            clear hje
            gi_wp2
            go_roundg (109574 - (k + 1)).toNat
            case measure => rw [G.out]; omega
            case rel => exact ⟨k + 1, Pq, pre2, rfl, ⟨by omega, by omega⟩, rfl, J4.out, S4.out, E5.out⟩
  · gi_wp2
    refine bodyPost_ret (results_none rfl _ _ _) rfl ?_
    exact ⟨⟨_, rfl⟩, .inr ⟨_, _, by rw [EE.out, eachG_yes hk]; exact ⟨_, rfl⟩, hx⟩⟩
  · gi_wp2
    refine bodyPost_ret (results_none rfl _ _ _) rfl ?_
    exact ⟨⟨_, rfl⟩, .inl ⟨_, [], by rw [EE.out, eachG_no hk]; rfl, hj⟩⟩

end Go.Proofs.YtgelojhpanbnaaaGreatDoor
