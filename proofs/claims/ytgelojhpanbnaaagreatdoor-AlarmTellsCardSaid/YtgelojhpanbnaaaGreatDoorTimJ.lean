/- event.Moved of a time that an event has, chimesame.Times of two lists that are the same; what times.Between's list is, plainly. -/
import Derived.Test.YtgelojhpanbnaaaGreatDoorTimI
import Derived.Test.YtgelojhpanbnaaaGreatDoorQ14
namespace Go.Proofs.YtgelojhpanbnaaaGreatDoor
open Go.RowKit Go.Shelf
set_option linter.unusedSimpArgs false
set_option linter.unusedVariables false

theorem mayZ_of {ah : Int} {Z : List (Int × Int)} (h : zfault ah Z = 0) : MayZ ah Z := zoneOf_bd h

theorem fullN_0 {E : Int} {n : Nat} (h : 0 = fullN E n) : E = 0 ∧ n ≤ 200 := by
  unfold fullN at h
  by_cases h1 : E = 0 ∧ 200 < n
  · rw [if_pos h1] at h; cases h
  · rw [if_neg h1] at h; exact ⟨h.symm, by omega⟩

theorem betE_0 {F ZF a b : Int} (h : betE F ZF a b = 0) : F = 0 ∧ ZF = 0 ∧ timeB a = true ∧ timeB b = true ∧ a ≤ b ∧ b - a ≤ 1000000 := by
  unfold betE at h
  by_cases h0 : readyE F ZF ≠ 0
  · rw [if_pos h0] at h; exact absurd h h0
  · rw [if_neg h0] at h
    obtain ⟨h1, h2⟩ := ready_ok (show readyE F ZF = 0 by omega)
    exact ⟨h1, h2, spanE_0 h⟩

theorem spanE_mk {a b : Int} (h1 : timeB a = true) (h2 : timeB b = true) (h3 : a ≤ b) (h4 : b - a ≤ 1000000) : spanE a b = 0 := by unfold spanE; exact if_pos ⟨h1, h2, h3, h4⟩

theorem betE_mk {a b : Int} (h1 : timeB a = true) (h2 : timeB b = true) (h3 : a ≤ b) (h4 : b - a ≤ 1000000) : betE 0 0 a b = 0 := by
  have h := spanE_mk h1 h2 h3 h4
  simpa [betE, readyE] using h

theorem fullN_mk {n : Nat} (h : n ≤ 200) : fullN 0 n = 0 := by rw [fullN, if_neg (by omega)]

/-- what is known of the times between two, when they are told. -/
structure TmsFacts (ah ln a b : Int) (Z : List (Int × Int)) (T M N : List Int) (C R : List (Int × Int)) : Prop where
  ta : timeB a = true
  tb : timeB b = true
  le : a ≤ b
  span : b - a ≤ 1000000
  len : R.length ≤ 200
  lnb : 0 ≤ ln ∧ ln ≤ 100000
  is : ∀ x ∈ R, IsT T M N x.1
  one : ∀ x ∈ R, oneT ah Z C ln x.1 = some x
  off : ∀ x ∈ R, (reallyC C x.1).2 = false
  lo : ∀ x ∈ R, a ≤ x.2
  hi : ∀ x ∈ R, x.2 < b
  time : ∀ x ∈ R, timeB x.2 = true
  up : ∀ (i : Nat) (h : i + 1 < R.length), R[i].2 ≤ R[i + 1].2
  next : ∀ (i : Nat) (h : i + 1 < R.length), R[i].2 < R[i + 1].2 → R[i + 1].2 - R[i].2 ≤ 500000 → ∃ r, tmsOf ah Z T M N C ln (R[i].2 + 1) (R[i].2 + 500000 + 1) = R[i + 1] :: r
  split : ∀ c, a ≤ c → c ≤ b → tmsOf ah Z T M N C ln a c ++ tmsOf ah Z T M N C ln c b = R

theorem tms_facts {st ln : Int} {rp : Bool} {fr ev ct ti : Int} {mo da : List Int} {we : List (Int × Int)} {pk M N : List Int} {C : List (Int × Int)} {A : List Alm} {ah a b : Int} {Z : List (Int × Int)} {T : List Int} {R : List (Int × Int)} {F : Int}
    (hF : F = 0 → EvFacts st ln rp fr ev ct ti mo da we pk M N C A) (hR : R = tmsOf ah Z T M N C ln a b) (hX : 0 = fullN (betE F (zfault ah Z) a b) R.length) : F = 0 ∧ zfault ah Z = 0 ∧ TmsFacts ah ln a b Z T M N C R := by
  obtain ⟨e1, n1⟩ := fullN_0 hX
  obtain ⟨f0, z0, t1, t2, t3, t4⟩ := betE_0 e1
  have ef := hF f0
  have mz := mayZ_of z0
  have hm : ∀ x ∈ R, _ := fun x hx => (tmsOf_mem mz ef.upC).1 (by rw [hR] at hx; exact hx)
  refine ⟨f0, z0, t1, t2, t3, t4, n1, ef.ln, fun x hx => (hm x hx).1, fun x hx => (hm x hx).2.1, fun x hx => (oneT_which (hm x hx).2.1).2.2.2.1, fun x hx => (hm x hx).2.2.1, fun x hx => (hm x hx).2.2.2, fun x hx => (oneT_which (hm x hx).2.1).2.1, fun i hi => ?_, fun i hi g1 g2 => ?_, fun c h1 h2 => ?_⟩
  · subst hR; exact tms_up hi
  · subst hR; exact tms_next1 mz ef.upC hi g1 g2
  · rw [hR]; exact tmsOf_split mz ef.upC h1 h2

/-- a list of times, as it lies. -/
def TmsR (ln : Int) (w : World) (v : Value) (L : List (Int × Int)) : Prop := Reads w v 3 L.length (L.flatMap (encT ln))

theorem TmsR.below {ln : Int} {w w' : World} {v : Value} {L : List (Int × Int)} (h : TmsR ln w v L) (hb : Below w.heap.size w w') : TmsR ln w' v L := Reads.below h hb

theorem OwnT.tms {ln : Int} {B : Nat} {w : World} {v : Value} {L : List (Int × Int)} (h : OwnT ln B w v L) : TmsR ln w v L := ownsRow_reads h

theorem tmsR_open {ln : Int} {w : World} {v : Value} {L : List (Int × Int)} (h : TmsR ln w v L) : ∃ a cap, v = .slice a L.length cap ∧ L.length ≤ cap ∧ cap ≤ maxLen ∧
    (0 < L.length → ∃ b off, a = some ⟨b, off, none⟩ ∧ ∀ (i : Nat) (hi : i < L.length), w.cell? ⟨b, off + i * 3, none⟩ = some (.int .i64 L[i].1) ∧ w.cell? ⟨b, off + i * 3 + 1, none⟩ = some (.int .i64 L[i].2) ∧ w.cell? ⟨b, off + i * 3 + 2, none⟩ = some (.int .i64 (L[i].2 + ln))) := by
  obtain ⟨p, cap, rfl, k1, k2, k3, k4⟩ := h
  refine ⟨p, cap, rfl, k2, k3, fun hp => ?_⟩
  obtain ⟨b, off, rfl, hc⟩ := k4 hp
  have q : ∀ (i : Nat) (hi : i < L.length) (o : Nat) (ho : o < 3) (u : Value), (encT ln L[i])[o]? = some u → w.cell? ⟨b, off + i * 3 + o, none⟩ = some u := fun i hi o ho u hu => by
    rw [Nat.add_assoc]
    exact hc _ _ ((flatMap_at (enc := encT ln) (k := 3) (fun _ => rfl) L i o hi ho).trans hu)
  exact ⟨b, off, rfl, fun i hi => ⟨q i hi 0 (by omega) _ rfl, q i hi 1 (by omega) _ rfl, q i hi 2 (by omega) _ rfl⟩⟩

/-- times.Between, times.Next, event.Moved of an event in a zone, at any later world. -/
def BetG (w0 : World) (zv ev : Value) (F ZF ah ln : Int) (Z : List (Int × Int)) (T M N : List Int) (C : List (Int × Int)) : Prop :=
  ∀ (lo hi : Int) (wx : World), Below w0.heap.size w0 wx → Calls Tryz.prog 17 #[zv, ev, .int .i64 lo, .int .i64 hi] wx (BetP ln (fullN (betE F ZF lo hi) (tmsOf ah Z T M N C ln lo hi).length) (tmsOf ah Z T M N C ln lo hi) wx)

theorem betG_mk (nm tx : List UInt8) (st ln : Int) (rp : Bool) (fr ev ct ti : Int) (vm vd vw vp vM vN vC vA : Value) (mo da : List Int) (we : List (Int × Int)) (pk M N : List Int) (C : List (Int × Int)) (A : List Alm) (ah : Int) (vZ : Value) (Z : List (Int × Int)) (w w0 : World) (hb0 : Below w.heap.size w w0) (hw : Months w)
    (hR : EvR w vm vd vw vp vM vN vC vA mo da we pk M N C A) (hZ : PairsR w vZ Z) (hnm : nm.length ≤ 140737488351232) (htx : tx.length ≤ 140737488351232) (hcl : C.length ≤ 8796093022208) :
    BetG w0 (.agg #[.int .i64 ah, vZ]) (.agg #[.string (bs nm), .string (bs tx), .int .i64 st, .int .i64 ln, .bool rp, .int .i64 fr, .int .i64 ev, .int .i64 ct, .int .i64 ti, vm, vd, vw, vp, vM, vN, vC, vA]) (evF nm tx st ln rp fr ev ct ti mo da we pk M N C A) (zfault ah Z) ah ln Z (ruleT rp st fr ev ct ti mo da we pk) M N C := fun lo hi wx hbx => by
  have hbw : Below w.heap.size w wx := hb0.trans (hbx.mono hb0.size)
  exact between_any nm tx st ln rp fr ev ct ti _ _ _ _ _ _ _ _ mo da we pk M N C A ah _ Z lo hi wx (hw.below hbw) (hR.below hbw) (hZ.below hbw) hnm htx hcl

/-- the form of what times.Next answers. -/
theorem nextT_form (ln E : Int) (L : List (Int × Int)) : ∃ t1 t2 t3 : Int, nextT ln E L = .agg #[.int .i64 t1, .int .i64 t2, .int .i64 t3] ∧ ∀ x r, E = 0 → L = x :: r → t1 = x.1 ∧ t2 = x.2 ∧ t3 = x.2 + ln := by
  unfold nextT
  by_cases h : E = 0
  · rw [if_pos h]
    cases L with
    | nil => exact ⟨0, 0, 0, rfl, fun x r _ h2 => by cases h2⟩
    | cons y r => exact ⟨_, _, _, rfl, fun x r _ h2 => by cases h2; exact ⟨rfl, rfl, rfl⟩⟩
  · rw [if_neg h]; exact ⟨0, 0, 0, rfl, fun _ _ h2 => absurd h2 h⟩

theorem nextE_ok {F ZF t : Int} {x : Int × Int} {r L : List (Int × Int)} (h1 : F = 0) (h2 : ZF = 0) (h3 : timeB t = true) (h4 : L = x :: r) : nextE F ZF t L = 0 := by
  subst h1; subst h2; subst h4
  unfold nextE readyE
  simp [h3]

end Go.Proofs.YtgelojhpanbnaaaGreatDoor
