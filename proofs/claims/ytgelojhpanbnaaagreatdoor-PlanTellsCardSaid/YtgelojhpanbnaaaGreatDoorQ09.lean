/- Texts joined into one (a claim has at most 60 files): The contract of zone.All: all times at which it is so there; From the rows' condition on the listed package-level variables to what the walks ask: the table of months; Arguments opened: a slice of integers, a slice of structs of two integers, as the walks' contracts read them. -/
import Derived.Test.YtgelojhpanbnaaaGreatDoorQ08
import Derived.Test.YtgelojhpanbnaaaGreatDoorQ17
import Derived.Deep.AppendLies
import Derived.Deep.Onto
import Derived.Laws.OwnMore
import Derived.Outline
import Derived.Test.YtgelojhpanbnaaaGreatDoorRows
import Derived.Test.YtgelojhpanbnaaaGreatDoorQ01
import Derived.ProofKit
import Derived.LaidMore
import Derived.LaidSub
import Derived.MakeChecks
import Derived.OpenShut
import Derived.Lib.LaidTab
import Derived.Stop.Joined
import Derived.Deep.SlicePairs
namespace Go.Proofs.YtgelojhpanbnaaaGreatDoor
open Go.RowKit

theorem intInfo : (Tryz.prog.info? 3).map (fun i => (i.zero, i.size, i.bytes)) = some (some (.int .i64 0), 1, 8) := by kernel_rfl

theorem far_cell {w w' : World} {v u : Value} {p : Addr} (hg : w.grownBy w' v.ownBlock) (hn : v.ownBlock ≠ some p.block) (h : w.cell? p = some u) : w'.cell? p = some u := hg.cell h (Ne.symm hn)

theorem own_below {B : Nat} {e : TypeId} {k : Nat} {v : Value} {n : Nat} {xs : List Value} {w w' : World} (h : w.ownsRow B e k v n xs) (hb : Below w.heap.size w w') : w'.ownsRow B e k v n xs := by
  refine h.kept (row := none) ⟨hb.os, hb.tape, hb.output, hb.size, fun j hj _ => hb.block j hj⟩ ?_
  cases hv : v.ownBlock with
  | none => exact .inl rfl
  | some k => exact .inr (by simp)

theorem aheads_take (ah : Int) (L : List (Int × Int)) (k : Nat) (h : k < L.length) : aheads ah (L.take (k + 1)) = aheads ah (L.take k) ++ [L[k].2] := by
  rw [List.take_succ_eq_append_getElem h, aheads, List.map_append]; rfl

theorem aheads_bd {ah : Int} {L : List (Int × Int)} (h : zfault ah L = 0) : ∀ n ∈ aheads ah L, -900 ≤ n ∧ n ≤ 900 := by
  obtain ⟨_, h1, h2⟩ := zfault_0 h
  intro n hn
  rcases List.mem_cons.1 hn with rfl | hn
  · exact may_bd h1
  · obtain ⟨s, hs, rfl⟩ := List.mem_map.1 hn
    exact may_bd (shF_may L none h2 s hs).2

def AllI (w : World) (L : List (Int × Int)) (ah : Int) (zs : Value) (g : Nat) (av i : Value) (wr : World) : Prop :=
  ∃ k : Nat, k ≤ L.length ∧ i = .int .i64 k ∧ g = L.length - k ∧ wr.ownsRow (w.heap.size + 1) 3 1 av (k + 1) ((aheads ah (L.take k)).map (Value.int .i64)) ∧
    wr.cell? ⟨w.heap.size, 0, none⟩ = some (.int .i64 ah) ∧ wr.cell? ⟨w.heap.size, 1, none⟩ = some zs ∧ w.heap.size < wr.heap.size ∧ Below w.heap.size w wr

def OutI (wo : World) (L : List (Int × Int)) (ah t : Int) (g : Nat) (ov i : Value) (wr : World) : Prop :=
  ∃ k : Nat, k ≤ L.length + 1 ∧ i = .int .i64 k ∧ g = L.length + 1 - k ∧ wr.ownsRow wo.heap.size 3 1 ov (hits ah L t ((aheads ah L).take k)).length ((hits ah L t ((aheads ah L).take k)).map (Value.int .i64)) ∧ Below wo.heap.size wo wr

theorem outI_no {wo wr : World} {L : List (Int × Int)} {ah t : Int} {ov : Value} {k : Nat} (hk : k < (aheads ah L).length) (hn : hitB ah L t (aheads ah L)[k] = false)
    (ho : wr.ownsRow wo.heap.size 3 1 ov (hits ah L t ((aheads ah L).take k)).length ((hits ah L t ((aheads ah L).take k)).map (Value.int .i64))) (hb : Below wo.heap.size wo wr) : OutI wo L ah t (L.length + 1 - (k + 1)) ov (.int .i64 ((k + 1 : Nat) : Int)) wr := by
  have hl : (aheads ah L).length = L.length + 1 := by simp [aheads]
  refine ⟨k + 1, by omega, rfl, rfl, ?_, hb⟩
  rw [List.take_succ_eq_append_getElem hk, hits_snoc, if_neg (by rw [hn]; simp), List.append_nil]
  exact ho

theorem outI_yes {wo wr : World} {L : List (Int × Int)} {ah t : Int} {ov : Value} {k m : Nat} (hk : k < (aheads ah L).length) (hn : hitB ah L t (aheads ah L)[k] = true) (hm : m = (hits ah L t ((aheads ah L).take k)).length + 1)
    (ho : wr.ownsRow wo.heap.size 3 1 ov m ((hits ah L t ((aheads ah L).take k)).map (Value.int .i64) ++ [.int .i64 (t - (aheads ah L)[k])])) (hb : Below wo.heap.size wo wr) : OutI wo L ah t (L.length + 1 - (k + 1)) ov (.int .i64 ((k + 1 : Nat) : Int)) wr := by
  have hl : (aheads ah L).length = L.length + 1 := by simp [aheads]
  refine ⟨k + 1, by omega, rfl, rfl, ?_, hb⟩
  rw [List.take_succ_eq_append_getElem hk, hits_snoc, if_pos hn, List.map_append, List.length_append]
  subst hm
  exact ho

set_option maxRecDepth 100000 in
set_option maxHeartbeats 4000000 in
theorem zall_any (v : Value) (L : List (Int × Int)) (ah t : Int) (w : World) (hL : PairsR w v L) (h : zfault ah L = 0) (h0 : 0 ≤ t) (h1 : t < 157785120) :
    Calls Tryz.prog 197 #[.agg #[.int .i64 ah, v], .int .i64 t] w fun e w' => ∃ u, e = .returned u ∧ w'.ownsRow w.heap.size 3 1 u (zoneAll ah L t).length ((zoneAll ah L t).map (Value.int .i64)) ∧ Below w.heap.size w w' := by
  obtain ⟨i0, hi, hz0, hz1, hz2⟩ := info_parts intInfo
  have hlen := (zfault_0 h).1
  have Z := Lib.hid h; clear h
  have HL := Lib.hid hL
  obtain ⟨a, cap, rfl, hc1, hc2, hcell⟩ := pairsR_open hL
  unfold maxLen at hc2
  have HC := Lib.hid hcell; clear hcell hL
  go_enter Tryz.func197, Tryz.ntmps197
  go_wp2
  go_loopg [5, 17] L.length (AllI w L ah (.slice a L.length cap))
  case atStart =>
    have hw0 : Below w.heap.size w (w.alloc (.cells #[.int .i64 ah, .slice a L.length cap] 33)) := (Below.refl _ _).alloc (Nat.le_refl _) _
    refine ⟨0, Nat.zero_le _, rfl, rfl, ?_, by simp, by simp, by simp; omega, hw0.alloc (by simp) _⟩
    have := owns_one (w.alloc (.cells #[.int .i64 ah, .slice a L.length cap] 33)) 3 (.int .i64 ah)
    simpa [aheads] using this
  case round =>
    obtain ⟨k, hk, rfl, hg, hown, z0, z1, hlw, hb⟩ := hrel
    have G := Lib.hid hg; clear hg
    by_cases hlt : k < L.length
    · obtain ⟨b, off, rfl, hcs⟩ := HC.out (by omega)
      have c0 := cell_below hb (hcs k hlt).1
      have c1 := cell_below hb (hcs k hlt).2
      have hbl : b < w.heap.size := World.block_lt_of_cell? w _ (hcs k hlt).1
      have hbs := hb.size
      clear hcs
      have AT := Lib.hid (aheads_take ah L k hlt)
      obtain ⟨x, hx⟩ : ∃ x, x = L[k].1 := ⟨_, rfl⟩
      obtain ⟨y, hy⟩ : ∃ y, y = L[k].2 := ⟨_, rfl⟩
      rw [← hx] at c0; rw [← hy] at c1
      have X := Lib.hid hx; have Y := Lib.hid hy; clear hx hy
      have hnb := ownBlock_ge hown
      have nZ : u5.ownBlock ≠ some w.heap.size := fun e => by have := hnb _ e; omega
      have NB := Lib.hid hnb; clear hnb
      go_wp2_with (at_builtin; refine wpList_append_lies _ rfl _ _ 22 rfl (w.heap.size + 1) 3 i0 _ 1 8 Tryz.underlying22 hi hz0 hz1 hz2 rfl (by decide) _ _ _ rfl ((hown.alloc _).alloc _) ⟨wr.heap.size + 1, 0, none⟩ 1 1 [.int .i64 y] rfl rfl ?c1 ?c2 (by decide) (by unfold maxLen; omega) (by omega) (by simp; omega) _ rfl ?_)
      case c1 =>
        have hh := heap_alloc_new (wr.alloc (.cells #[.int .i64 x, .int .i64 y] 126)) (.cells #[.int .i64 y] 3)
        rw [World.size_alloc] at hh
        exact World.news_of_block (cs := #[.int .i64 y]) hh
      case c2 => intro u hu; simp at hu; subst hu; rfl
      intro g cap1 w1 hown1 hgrow1 hat1 hlt1
      have hO : w1.ownsRow (w.heap.size + 1) 3 1 (.slice (some ⟨g, 0, none⟩) (k + 1 + 1) cap1) (k + 1 + 1) ((aheads ah (L.take (k + 1))).map (Value.int .i64)) := by
        rw [AT.out, List.map_append, ← Y.out]; exact hown1
      have hB1 : Below w.heap.size w w1 := ((hb.alloc hbs _).alloc (by simp; omega) _).grown hgrow1 (by simp; omega) (fun c hc => by have := NB.out c hc; omega)
      have y0 := far_cell (p := ⟨w.heap.size, 0, none⟩) hgrow1 nZ ((World.cell?_alloc_past _ _ _ (by simp; omega)).trans ((World.cell?_alloc_past _ _ _ hlw).trans z0))
      have y1 := far_cell (p := ⟨w.heap.size, 1, none⟩) hgrow1 nZ ((World.cell?_alloc_past _ _ _ (by simp; omega)).trans ((World.cell?_alloc_past _ _ _ hlw).trans z1))
      have hl1 : w.heap.size < w1.heap.size := by have := hgrow1.size; simp at this; omega
      have R := Lib.hid (show AllI w L ah (.slice (some ⟨b, off, none⟩) L.length cap) (L.length - (k + 1)) (.slice (some ⟨g, 0, none⟩) (k + 1 + 1) cap1) (.int .i64 ((k + 1 : Nat) : Int)) w1 from ⟨k + 1, by omega, rfl, rfl, hO, y0, y1, hl1, hB1⟩)
      clear hO hB1 y0 y1 hl1 hown1 hgrow1 hat1 hlt1 hown hb z0 z1
      go_wp2
      go_roundg (L.length - (k + 1))
      case measure => rw [G.out]; omega
      case rel => exact R.out
    · obtain rfl : k = L.length := by omega
      rw [List.take_length] at hown
      obtain ⟨g, cap1, rfl, hg1, hg2⟩ := hown.form (by omega)
      have hcs := fun j (hj : j < L.length + 1) => hown.cellAt j (by omega)
      have hbs := hb.size
      obtain ⟨wo, rfl⟩ : ∃ wo : World, wo = wr := ⟨_, rfl⟩
      have D := Lib.hid hown; have HB := Lib.hid hb
      have CS := Lib.hid hcs
      have hal : (aheads ah L).length = L.length + 1 := by simp [aheads]
      have AL := Lib.hid hal
      have AB := Lib.hid (aheads_bd Z.out)
      clear hown hb hcs hal
      go_wp2
      go_loopg [4, 29] (L.length + 1) (OutI wo L ah t)
      case atStart => exact ⟨0, Nat.zero_le _, rfl, rfl, World.ownsRow_nil _ _ _ _, Below.refl _ _⟩
      case round =>
        obtain ⟨k, hk, rfl, hg, hown, hb⟩ := hrel
        have G2 := Lib.hid hg; clear hg
        by_cases hlt : k < L.length + 1
        · have hkA : k < (aheads ah L).length := by rw [AL.out]; exact hlt
          obtain ⟨n, hn⟩ : ∃ n, n = (aheads ah L)[k] := ⟨_, rfl⟩
          have cn := cell_below hb ((CS.out k hlt).trans (show ((aheads ah L).map (Value.int .i64))[k]? = some (.int .i64 n) by rw [hn]; simp [hkA]))
          have hnb := AB.out n (by rw [hn]; exact List.getElem_mem hkA)
          obtain ⟨n1, n2⟩ := hnb
          have N := Lib.hid hn; clear hn
          have hhl : (hits ah L t ((aheads ah L).take k)).length ≤ 21 := Nat.le_trans (hits_len _ _ _ _) (by rw [List.length_take]; omega)
          have hlt2 : (k : Int) < (L.length : Int) + 1 := by omega
          have y0 := cell_below hb z0
          have y1 := cell_below hb z1
          have hlq := Nat.lt_of_lt_of_le hlw hb.size
          by_cases hv : timeB (t - n) = true
          · have V := Lib.hid hv; clear hv
            have hbw : Below w.heap.size w wr := HB.out.trans (hb.mono HB.out.size)
            obtain ⟨z, hz⟩ : ∃ z, z = zoneOf ah L (t - n) := ⟨_, rfl⟩
            have ZZ := Lib.hid hz
            have BW := Lib.hid hbw; have BO := Lib.hid hb; have OW := Lib.hid hown
            clear hz hbw hb hown
            by_cases he : z = n
            · have E := Lib.hid he
              have he2 : (z == n) = true := by simpa using he
              clear he
              go_wp2_with fail
              refine (valid_yes _ _ V.out).mono ?_; rintro e w' ⟨rfl, rfl⟩
              go_wp2_with fail
              refine (zof_any _ L ah (t - n) _ (HL.out.below BW.out)).mono ?_; rintro e w2 ⟨rfl, hb2⟩
              rw [← ZZ.out]
              have hown2 := own_below OW.out hb2
              have hs2 := hb2.size
              have hso := BO.out.size
              have B2 := Lib.hid hb2; clear hb2
              go_wp2_with (at_builtin; refine wpList_append_lies _ rfl _ _ 22 rfl wo.heap.size 3 i0 _ 1 8 Tryz.underlying22 hi hz0 hz1 hz2 rfl (by decide) _ _ _ rfl (hown2.alloc _) ⟨w2.heap.size, 0, none⟩ 1 1 [.int .i64 (t - n)] rfl rfl ?d1 ?d2 (by decide) (by unfold maxLen; omega) (by omega) (by simp; omega) _ rfl ?_)
              case d1 => exact cell_one_new _ _ _
              case d2 => intro u hu; simp at hu; subst hu; rfl
              intro g3 cap3 w3 hown3 hgrow3 hat3 hlt3
              have hB3 : Below wo.heap.size wo w3 := ((BO.out.trans (B2.out.mono hso)).alloc (by omega) _).grown hgrow3 (by simp; omega) (fun c hc => (hown2.lt c hc).1)
              have R := Lib.hid (outI_yes hkA (by rw [← N.out, hitB, V.out, ← ZZ.out, E.out]; simp) rfl (by rw [← N.out]; exact hown3) hB3)
              clear hB3 hown3 hgrow3 hat3 hlt3 hown2
              go_wp2
              go_roundg (L.length + 1 - (k + 1))
              case measure => rw [G2.out]; omega
              case rel => exact R.out
            · have E := Lib.hid he
              have he2 : (z == n) = false := by simpa using he
              clear he
              go_wp2_with fail
              refine (valid_yes _ _ V.out).mono ?_; rintro e w' ⟨rfl, rfl⟩
              go_wp2_with fail
              refine (zof_any _ L ah (t - n) _ (HL.out.below BW.out)).mono ?_; rintro e w2 ⟨rfl, hb2⟩
              rw [← ZZ.out]
              have R := Lib.hid (outI_no hkA (by rw [← N.out, hitB, V.out, ← ZZ.out]; simpa using E.out) (own_below OW.out hb2) (BO.out.trans (hb2.mono BO.out.size)))
              clear hb2
              go_wp2
              go_roundg (L.length + 1 - (k + 1))
              case measure => rw [G2.out]; omega
              case rel => exact R.out
          · have hv' : timeB (t - n) = false := by simpa using hv
            have V := Lib.hid hv'
            have R := Lib.hid (outI_no hkA (by rw [← N.out, hitB, V.out]; rfl) hown hb)
            clear hv hv' hown hb
            go_wp2_with (go_at_call 58; refine (valid_no _ _ V.out).mono ?_; rintro e w' ⟨rfl, rfl⟩)
            go_roundg (L.length + 1 - (k + 1))
            case measure => rw [G2.out]; omega
            case rel => exact R.out
        · obtain rfl : k = L.length + 1 := by omega
          rw [List.take_of_length_le (by rw [AL.out]; omega)] at hown
          have hhl : (hits ah L t (aheads ah L)).length ≤ 21 := Nat.le_trans (hits_len _ _ _ _) (by rw [AL.out]; omega)
          have OW := Lib.hid hown; have BO := Lib.hid hb
          have hso := hb.size
          clear hown hb hg2 hlt
          go_wp2_with fail
          refine (sort_own _ (hits ah L t (aheads ah L)) _ OW.out (by omega)).mono ?_; rintro e w2 ⟨rfl, hs1, hs2⟩
          have S1 := Lib.hid hs1; have S2 := Lib.hid hs2; clear hs1 hs2
          go_wp2_with fail
          refine (compact_own _ (srt (hits ah L t (aheads ah L))) _ (by rw [srt_len]; exact S1.out) (by rw [srt_len]; omega)).mono ?_; rintro e w3 ⟨u, rfl, hs1, hs2⟩
          have S3 := Lib.hid hs1; have S4 := Lib.hid hs2; clear hs1 hs2
          go_wp2
          go_ret
          have hge : ∀ c, u4.ownBlock = some c → w.heap.size ≤ c := fun c hc => by have := (OW.out.lt c hc).1; have := HB.out.size; omega
          exact ⟨u, rfl, S3.out.mono HB.out.size, ((HB.out.trans (BO.out.mono HB.out.size)).grown S2.out (by have := HB.out.size; omega) hge).grown S4.out (by have := HB.out.size; have := S2.out.size; omega) hge⟩
end Go.Proofs.YtgelojhpanbnaaaGreatDoor

namespace Go.Proofs.YtgelojhpanbnaaaGreatDoor
open Go.ChangeShapes Go.WideShapes Go.ChangeAt Go.RowKit

theorem tMonths : (Tryz.prog.globals[0]?).map (·.type) = some 142 := by kernel_rfl

theorem months_of_laid {W : World} {l : List (String × DataW Unit)} (nm : String) (hg : Tryz.prog.globalNamed nm = some 0) (h : laidMetH Tryz.prog l W)
    (hl : (l.filter fun x => x.1 == nm) = [(nm, Lib.tabData .i64 [31, 28, 31, 30, 31, 30, 31, 31, 30, 31, 30, 31])]) : Months W := by
  have h1 := h.filter (fun x => x.1 == nm)
  rw [hl] at h1
  rw [MakeChecks.laidMetH_plain _ _ _ (by rfl)] at h1
  have hT := Lib.tabIs_of_head hg tMonths Tryz.underlying142 Tryz.underlying3 (by kernel_rfl) (by kernel_rfl) h1
  intro m h2 h3
  have hc := hT.cell hg (m.toNat - 1) (by simp; omega)
  rw [hc]
  obtain h | h | h | h | h | h | h | h | h | h | h | h : m = 1 ∨ m = 2 ∨ m = 3 ∨ m = 4 ∨ m = 5 ∨ m = 6 ∨ m = 7 ∨ m = 8 ∨ m = 9 ∨ m = 10 ∨ m = 11 ∨ m = 12 := by omega
  all_goals (subst h; rfl)
end Go.Proofs.YtgelojhpanbnaaaGreatDoor

namespace Go.Proofs.YtgelojhpanbnaaaGreatDoor
open Go.Deep Go.ChangeShapes Go.WideShapes Go.RowKit

theorem add_spot (b o j : Nat) : (⟨b, o, none⟩ : Addr).add j = ⟨b, o + j, none⟩ := by unfold Addr.add; split <;> simp_all

theorem cell_spot {w : World} {a : Addr} {u : Value} (h : w.cell? (a.add 0) = some u) : a = ⟨a.block, a.off, none⟩ := by
  have h' : w.cell? a = some u := h
  obtain ⟨b, o, s⟩ := a
  cases s with
  | none => rfl
  | some s =>
    unfold World.cell? at h'
    split at h' <;> simp at h'

theorem pairsR_mk {w : World} {a : Addr} {len cap : Nat} (L : List (Int × Int)) (hlen : L.length = len) (h1 : len ≤ cap) (h2 : cap ≤ maxLen)
    (hc : ∀ i (hi : i < L.length), w.cell? (a.add (i * 2)) = some (.int .i64 L[i].1) ∧ w.cell? (a.add (i * 2 + 1)) = some (.int .i64 L[i].2)) : PairsR w (.slice (some a) len cap) L := by
  subst hlen
  refine ⟨some a, cap, rfl, pairsV_len L, h1, h2, fun hn => ?_⟩
  have ha := cell_spot (a := a) (hc 0 hn).1
  refine ⟨a.block, a.off, by rw [← ha], fun j u hj => ?_⟩
  have hjl : j < L.length * 2 := by rw [← pairsV_len]; exact (List.getElem?_eq_some_iff.1 hj).1
  have hi : j / 2 < L.length := by omega
  have hp := pairsV_at L (j / 2) hi
  have hcc := hc (j / 2) hi
  rw [ha, add_spot, add_spot] at hcc
  by_cases he : j % 2 = 0
  · have e : j / 2 * 2 = j := by omega
    rw [e] at hp hcc
    rw [hp.1] at hj
    rw [← hj]; exact hcc.1
  · have e : j / 2 * 2 + 1 = j := by omega
    rw [e] at hp hcc
    rw [hp.2] at hj
    rw [← hj]; exact hcc.2

section
variable {H : Type} {enc : TypeId × Value → H} {P : Program} {w : World} {base : Nat} {spare : Nat → Bool} {held : Bool}

theorem open_pairsR {t e : TypeId} {f0 f1 : Field} {fuel : Nat} {v : Value} {x : DataW H × List MemPlace} (ht : P.underlying t = some (.slice e)) (he : P.underlying e = some (.struct #[f0, f1]))
    (ce : P.cellsOf e = 2) (o0 : f0.offset = 0) (o1 : f1.offset = 1) (c0 : P.cellsOf f0.type = 1) (c1 : P.cellsOf f1.type = 1) (i0 : P.underlying f0.type = some (.int .i64)) (i1 : P.underlying f1.type = some (.int .i64))
    (h : DataW.trod enc P w base spare held fuel t [v] = some x) : ∃ L : List (Int × Int), PairsR w v L := by
  rcases open_slice_pairs ht he ce o0 o1 c0 c1 h with ⟨h1, _⟩ | ⟨a, len, cap, m, n, V0, V1, D0, D1, P0, P1, h1, hb, hl, hm, hmm, hx, hi⟩
  · obtain rfl : v = .slice none 0 0 := by simpa using h1
    exact ⟨[], reads_nil w 2⟩
  · obtain rfl : v = .slice (some a) len cap := by simpa using h1
    have hlm : len ≤ m := by rw [hmm]; split <;> omega
    refine ⟨(List.range len).map fun i => (intOf (V0 i), intOf (V1 i)), pairsR_mk _ (by simp) hl hm fun i hi' => ?_⟩
    have hil : i < len := by simpa using hi'
    obtain ⟨h3, h4, h5, h6⟩ := hi i (by omega)
    obtain ⟨p, e1, _, _⟩ := DataW.trod_int i0 h5
    obtain ⟨q, e2, _, _⟩ := DataW.trod_int i1 h6
    have e1' : V0 i = .int .i64 p := by simpa using e1
    have e2' : V1 i = .int .i64 q := by simpa using e2
    rw [e1'] at h3; rw [e2'] at h4
    refine ⟨h3.trans ?_, h4.trans ?_⟩ <;> simp [e1', e2', intOf]

theorem intsR_mk {a : Addr} {len cap : Nat} (L : List Int) (hlen : L.length = len) (h1 : len ≤ cap) (h2 : cap ≤ maxLen) (hc : ∀ i (hi : i < L.length), w.cell? (a.add i) = some (.int .i64 L[i])) : IntsR w (.slice (some a) len cap) L := by
  subst hlen
  refine ⟨some a, cap, rfl, by simp, h1, h2, fun hn => ?_⟩
  have ha := cell_spot (a := a) (hc 0 hn)
  refine ⟨a.block, a.off, by rw [← ha], fun j u hj => ?_⟩
  have hjl : j < L.length := by have := (List.getElem?_eq_some_iff.1 hj).1; simpa using this
  have hcc := hc j hjl
  rw [ha, add_spot] at hcc
  rw [hcc, ← hj]
  simp [hjl]

theorem open_intsR {t e : TypeId} {fuel : Nat} {v : Value} {x : DataW H × List MemPlace} (ht : P.underlying t = some (.slice e)) (ce : P.cellsOf e = 1) (i0 : P.underlying e = some (.int .i64))
    (h : DataW.trod enc P w base spare held fuel t [v] = some x) : ∃ L : List Int, IntsR w v L := by
  rcases open_slice ht h with ⟨h1, _⟩ | ⟨a, len, cap, m, n, D, Pl, h1, hb, hl, hm, hmm, hx, hi⟩
  · obtain rfl : v = .slice none 0 0 := by simpa using h1
    exact ⟨[], reads_nil w 1⟩
  · obtain rfl : v = .slice (some a) len cap := by simpa using h1
    have hlm : len ≤ m := by rw [hmm]; split <;> omega
    refine ⟨(List.range len).map fun i => intOf ((w.cell? (a.add i)).getD undef), intsR_mk _ (by simp) hl hm fun i hi' => ?_⟩
    have hil : i < len := by simpa using hi'
    obtain ⟨cs', h3, h4⟩ := hi i (by omega)
    rw [ce, Nat.mul_one] at h3
    obtain ⟨p, rfl, _, _⟩ := DataW.trod_int i0 h4
    obtain ⟨_, _, hcell⟩ := World.cells?_some h3
    have hc0 := hcell 0 (by omega)
    have hc1 : w.cell? (a.add i) = some (.int .i64 p) := by simpa [Addr.add] using hc0
    simp [hc1, intOf]

end

end Go.Proofs.YtgelojhpanbnaaaGreatDoor
