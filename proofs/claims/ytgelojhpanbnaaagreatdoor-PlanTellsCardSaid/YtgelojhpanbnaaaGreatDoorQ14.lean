/- Texts joined into one (a claim has at most 60 files): seq.Between: its walk; event.Of of an event that repeats: plain facts about its times; The times of an event, plainly: which they are; they rise; in two parts they are the same; Times of an event in a zone, plainly: which they are, in which order; in two parts they are the same; slices.BinarySearchFunc at an event's changes; event.Really: their contracts; Times of an event in a zone without shifts that is more ahead: the same, so much earlier; The law TimesHold, plainly: the next time is the next one of a list; the fact. -/
import Derived.Test.YtgelojhpanbnaaaGreatDoorQ13
import Derived.Test.YtgelojhpanbnaaaGreatDoorQ08
import Derived.Test.YtgelojhpanbnaaaGreatDoorQ10
namespace Go.Proofs.YtgelojhpanbnaaaGreatDoor
open Go.RowKit Go.Shelf
set_option linter.unusedSimpArgs false
set_option linter.unusedVariables false
attribute [local go_sem] Oper.semAt_some

end Go.Proofs.YtgelojhpanbnaaaGreatDoor

namespace Go.Proofs.YtgelojhpanbnaaaGreatDoor
open Go.RowKit Go.Shelf
set_option linter.unusedSimpArgs false
set_option linter.unusedVariables false

def evT (mi x : Int) : Int := wrap64 (wrap64 (wrap64 (x - 1) * 1440) + mi)

theorem evT_in {mi x : Int} (h1 : 1 ≤ x) (h2 : x ≤ 109573) (h3 : 0 ≤ mi) (h4 : mi < 1440) : evT mi x = (x - 1) * 1440 + mi := by
  unfold evT
  rw [IntWalk.wrap64_in (x - 1) (by omega), IntWalk.wrap64_in ((x - 1) * 1440) (by omega), IntWalk.wrap64_in ((x - 1) * 1440 + mi) (by omega)]

def tmsL (mi : Int) (E : List Int) : List Int := E.map (evT mi)

theorem tmsL_append (mi : Int) (E F : List Int) : tmsL mi (E ++ F) = tmsL mi E ++ tmsL mi F := List.map_append ..

theorem tms_next (mi a b : Int) (p : List Int) (x : Int) : inR a b (tmsL mi (p ++ [x])) = inR a b (tmsL mi p) ++ inR a b [evT mi x] := by
  rw [tmsL_append, inR_append]; rfl

theorem tms_len (mi a b : Int) (E : List Int) : (inR a b (tmsL mi E)).length ≤ E.length := by
  have h : (inR a b (tmsL mi E)).length ≤ (tmsL mi E).length := List.length_filter_le ..
  simpa [tmsL] using h

theorem tms_stop {E p : List Int} {x mi a b : Int} (hE : E.Pairwise (· < ·)) (hb : ∀ z ∈ E, 1 ≤ z ∧ z ≤ 109573) (h3 : 0 ≤ mi) (h4 : mi < 1440) (h : p ++ [x] <+: E) (hx : b < evT mi x) : inR a b (tmsL mi p) = inR a b (tmsL mi E) := by
  obtain ⟨r, rfl⟩ := h
  have hxb := hb x (by simp)
  rw [evT_in hxb.1 hxb.2 h3 h4] at hx
  rw [List.append_assoc, tmsL_append, inR_append]
  have : inR a b (tmsL mi ([x] ++ r)) = [] := by
    unfold inR tmsL
    rw [List.filter_eq_nil_iff]
    intro t ht
    obtain ⟨z, hz, rfl⟩ := List.mem_map.1 ht
    have h3' := (List.pairwise_append.1 hE).1
    have h4' := (List.pairwise_append.1 h3').2.2
    have hzb := hb z (by rw [List.append_assoc]; exact List.mem_append.2 (.inr hz))
    rw [evT_in hzb.1 hzb.2 h3 h4]
    have hle : x ≤ z := by
      rcases List.mem_append.1 hz with hz | hz
      · have : z = x := by simpa using hz
        omega
      · have := (List.pairwise_append.1 hE).2.2 x (by simp) z hz
        omega
    simp; omega
  rw [this, List.append_nil]

def EvI (a b mi : Int) (w0 : World) (ob mb kb : Nat) (kv : Value) (Pr : Nat → Prop) (pre : List Int) (W : World) : Prop :=
  Col w0 ob 22 3 (fun k => Pr k ∨ k = mb ∨ k = kb) (inR a b (tmsL mi pre)) W ∧ Var mb 3 (.int .i64 mi) Pr W ∧ Var kb 149 kv Pr W

theorem EvI.step {a b mi : Int} {w0 : World} {ob mb kb : Nat} {kv : Value} {Pr Pr' : Nat → Prop} {pre : List Int} {W W' : World} (h : EvI a b mi w0 ob mb kb kv Pr pre W) (hs : StepP w0.heap.size Pr W W') (hp : ∀ k, Pr' k → Pr k ∨ (W.heap.size ≤ k ∧ k < W'.heap.size)) : EvI a b mi w0 ob mb kb kv Pr' pre W' :=
  ⟨h.1.step (hs.widen fun _ => .inl) (fun k hk => by
    rcases hk with hk | hk
    · rcases hp k hk with h1 | h1
      · exact .inl (.inl h1)
      · exact .inr h1
    · exact .inl (.inr hk)), h.2.1.step hs hp, h.2.2.step hs hp⟩

theorem Col.swap {w0 : World} {ob kb D : Nat} {T e tk : TypeId} {kv : Value} {Pr : Nat → Prop} {xs : List Int} {W : World} {o : Option (List Deferred)} (h : Col w0 ob T e Pr xs W) (hk : Boxed W kb tk kv) (hte : tk ≠ e) (hok : ob ≠ kb) (hD : W.heap[D]? = some (.deferred o)) :
    Col w0 ob T e (fun k => k = kb ∨ k = D) xs W := by
  obtain ⟨⟨hb, hob, _⟩, v, hv, hr, _, _⟩ := h
  refine ⟨⟨hb, hob, ?_⟩, v, hv, hr, ?_, ?_⟩
  · rintro k (rfl | rfl)
    · exact hk.lt
    · exact (Array.getElem?_eq_some_iff.1 hD).1
  · rintro (h | h)
    · exact hok h
    · subst h
      have := (show W.heap[ob]? = _ from hv).symm.trans hD
      simp at this
  · rintro g hg (h | h)
    · subst h
      exact hk.not_row hte hr hg.symm
    · subst h
      rcases hr.2 with ⟨rfl, _⟩ | ⟨g', cap, cur, rfl, _, hgb, _⟩
      · cases hg
      · obtain rfl : g' = g := by simpa [Value.ownBlock] using hg
        have := hgb.symm.trans hD
        simp at this

theorem grown_rec {w w' : World} {base n cw D : Nat} {e : TypeId} {v : Value} {xs : List Value} {o : Option (List Deferred)} (hr : w.ownsRow base e cw v n xs) (hg : w.grownBy w' v.ownBlock) (hD : w.heap[D]? = some (.deferred o)) : w'.heap[D]? = some (.deferred o) := by
  refine (hg.block D (Array.getElem?_eq_some_iff.1 hD).1 ?_).trans hD
  intro h
  rcases hr.2 with ⟨rfl, _⟩ | ⟨g', cap, cur, rfl, _, hgb, _⟩
  · cases h
  · obtain rfl : D = g' := by simpa [Value.ownBlock] using h
    have := hgb.symm.trans hD
    simp at this

end Go.Proofs.YtgelojhpanbnaaaGreatDoor

namespace Go.Proofs.YtgelojhpanbnaaaGreatDoor
open Go.RowKit Go.Shelf
set_option linter.unusedSimpArgs false
set_option linter.unusedVariables false

theorem evL_up (B M N : List Int) (a b : Int) : (evL B M N a b).Pairwise (· < ·) := by
  unfold evL notIn srt
  exact (sortC_rises _).sublist List.filter_sublist

theorem evL_mem {B M N : List Int} {a b x : Int} : x ∈ evL B M N a b ↔ (x ∈ B ∨ x ∈ M) ∧ a ≤ x ∧ x ≤ b ∧ inB N x = false := by
  unfold evL notIn srt
  rw [List.mem_filter, sortC_mem, List.mem_append]
  simp only [inR, List.mem_filter, Bool.and_eq_true, decide_eq_true_eq, Bool.not_eq_true']
  constructor
  · rintro ⟨h | h, h2⟩
    · exact ⟨.inl h.1, h.2.1, h.2.2, h2⟩
    · exact ⟨.inr h.1, h.2.1, h.2.2, h2⟩
  · rintro ⟨h | h, h1, h2, h3⟩
    · exact ⟨.inl ⟨h, h1, h2⟩, h3⟩
    · exact ⟨.inr ⟨h, h1, h2⟩, h3⟩

noncomputable def daysAt (fr ev ct ti n : Int) (mo da : List Int) (we : List (Int × Int)) (pk : List Int) : List Int :=
  open Classical in if h : ∃ p : Int × Int × Int, Cal.dateB p.1 p.2.1 p.2.2 = true ∧ Cal.num p.1 p.2.1 p.2.2 = n then eachL fr ev ct ti h.choose.1 h.choose.2.1 h.choose.2.2 mo da we pk n else []

theorem daysAt_eq {fr ev ct ti n y m d : Int} {mo da : List Int} {we : List (Int × Int)} {pk : List Int} (hd : Cal.dateB y m d = true) (hn : Cal.num y m d = n) : daysAt fr ev ct ti n mo da we pk = eachL fr ev ct ti y m d mo da we pk n := by
  have h : ∃ p : Int × Int × Int, Cal.dateB p.1 p.2.1 p.2.2 = true ∧ Cal.num p.1 p.2.1 p.2.2 = n := ⟨(y, m, d), hd, hn⟩
  have hc := h.choose_spec
  obtain ⟨e1, e2, e3⟩ := Cal.num_inj hc.1 hd (hc.2.trans hn.symm)
  unfold daysAt
  rw [dif_pos h, e1, e2, e3]

noncomputable def ruleT (rp : Bool) (st fr ev ct ti : Int) (mo da : List Int) (we : List (Int × Int)) (pk : List Int) : List Int :=
  if rp = true then tmsL (st % 1440) (daysAt fr ev ct ti (st / 1440 + 1) mo da we pk) else [st]

def EvOk (rp : Bool) (st fr ev ct ti : Int) (mo da : List Int) (we : List (Int × Int)) (pk M : List Int) : Prop :=
  timeB st = true ∧ (rp = true → ruleF fr ev ct ti mo da we pk = 0) ∧ M.length ≤ 100

theorem evF_ok {nm tx : List UInt8} {st ln : Int} {rp : Bool} {fr ev ct ti : Int} {mo da : List Int} {we : List (Int × Int)} {pk M N : List Int} {C : List (Int × Int)} {A : List Alm} (h : evF nm tx st ln rp fr ev ct ti mo da we pk M N C A = 0) :
    evA nm tx = false ∧ evB st ln = false ∧ evG rp fr ev ct ti mo.length da.length we.length pk.length = false ∧ (rp = true → ruleF fr ev ct ti mo da we pk = 0) ∧ evD M.length N.length C.length A.length = false ∧ evE M N C = false ∧ evR M N C = false ∧ A.any almBad = false := by
  unfold evF at h
  by_cases h1 : evA nm tx = true
  · rw [if_pos h1] at h; cases h
  rw [if_neg h1] at h
  by_cases h2 : evB st ln = true
  · rw [if_pos h2] at h; cases h
  rw [if_neg h2] at h
  by_cases h3 : evG rp fr ev ct ti mo.length da.length we.length pk.length = true
  · rw [if_pos h3] at h; cases h
  rw [if_neg h3] at h
  by_cases h4 : rp = true ∧ ruleF fr ev ct ti mo da we pk ≠ 0
  · rw [if_pos h4] at h; exact absurd h h4.2
  rw [if_neg h4] at h
  by_cases h5 : evD M.length N.length C.length A.length = true
  · rw [if_pos h5] at h; cases h
  rw [if_neg h5] at h
  by_cases h6 : evE M N C = true
  · rw [if_pos h6] at h; cases h
  rw [if_neg h6] at h
  by_cases h7 : evR M N C = true
  · rw [if_pos h7] at h; cases h
  rw [if_neg h7] at h
  by_cases h8 : A.any almBad = true
  · rw [if_pos h8] at h; cases h
  refine ⟨by simpa using h1, by simpa using h2, by simpa using h3, fun hr => ?_, by simpa using h5, by simpa using h6, by simpa using h7, by simpa using h8⟩
  by_cases hq : ruleF fr ev ct ti mo da we pk = 0
  · exact hq
  · exact absurd ⟨hr, hq⟩ h4

theorem badT_no {t : Int} (h : badT t = false) : timeB t = true := by
  simpa [badT] using h

theorem evF_EvOk {nm tx : List UInt8} {st ln : Int} {rp : Bool} {fr ev ct ti : Int} {mo da : List Int} {we : List (Int × Int)} {pk M N : List Int} {C : List (Int × Int)} {A : List Alm} (h : evF nm tx st ln rp fr ev ct ti mo da we pk M N C A = 0) :
    EvOk rp st fr ev ct ti mo da we pk M := by
  obtain ⟨-, h2, -, h4, h5, -⟩ := evF_ok h
  refine ⟨badT_no ?_, h4, ?_⟩
  · unfold evB at h2; simp only [Bool.or_eq_false_iff] at h2; exact h2.1.1
  · unfold evD at h5; simp only [Bool.or_eq_false_iff, decide_eq_false_iff_not] at h5; omega

def spanE (a b : Int) : Int := if timeB a = true ∧ timeB b = true ∧ a ≤ b ∧ b - a ≤ 1000000 then 0 else 1

end Go.Proofs.YtgelojhpanbnaaaGreatDoor

namespace Go.Proofs.YtgelojhpanbnaaaGreatDoor
open Go.RowKit Go.Shelf
set_option linter.unusedSimpArgs false
set_option linter.unusedVariables false

def reallyC (C : List (Int × Int)) (t : Int) : Int × Bool := match C.find? (fun c => c.1 == t) with
  | none => (t, false)
  | some c => (c.2, c.2 == 0)

def IsT (B M N : List Int) (t : Int) : Prop := (t ∈ B ∨ t ∈ M) ∧ inB N t = false

theorem evL_is {B M N : List Int} {a b x : Int} : x ∈ evL B M N a b ↔ IsT B M N x ∧ a ≤ x ∧ x ≤ b := by
  rw [evL_mem, IsT]
  exact ⟨fun h => ⟨⟨h.1, h.2.2.2⟩, h.2.1, h.2.2.1⟩, fun h => ⟨h.1.1, h.2.1, h.2.2, h.1.2⟩⟩

def chgA (B M N : List Int) (C : List (Int × Int)) : List Int := evL B M N (C.head?.getD (0, 0)).1 (C.getLast?.getD (0, 0)).1

def chgL (B M N : List Int) (C : List (Int × Int)) : List (Int × Int) := C.filter fun c => inB (chgA B M N C) c.1

theorem rises_at {C : List (Int × Int)} (h : C.Pairwise (fun x y => x.1 < y.1)) {c : Int × Int} (hc : c ∈ C) : (C.head?.getD (0, 0)).1 ≤ c.1 ∧ c.1 ≤ (C.getLast?.getD (0, 0)).1 := by
  obtain ⟨i, hi, rfl⟩ := List.mem_iff_getElem.1 hc
  have hp := List.pairwise_iff_getElem.1 h
  rw [List.head?_eq_getElem?, List.getLast?_eq_getElem?, List.getElem?_eq_getElem (show 0 < C.length by omega), List.getElem?_eq_getElem (show C.length - 1 < C.length by omega)]
  simp only [Option.getD_some]
  constructor
  · by_cases h0 : i = 0
    · subst h0; exact Int.le_refl _
    · exact Int.le_of_lt (hp 0 i (by omega) hi (by omega))
  · by_cases h0 : i = C.length - 1
    · subst h0; exact Int.le_refl _
    · exact Int.le_of_lt (hp i (C.length - 1) hi (by omega) (by omega))

theorem chgL_mem {B M N : List Int} {C : List (Int × Int)} (h : C.Pairwise (fun x y => x.1 < y.1)) {c : Int × Int} : c ∈ chgL B M N C ↔ c ∈ C ∧ IsT B M N c.1 := by
  rw [chgL, List.mem_filter]
  constructor
  · rintro ⟨h1, h2⟩
    exact ⟨h1, (evL_is.1 (of_decide_eq_true h2)).1⟩
  · rintro ⟨h1, h2⟩
    exact ⟨h1, decide_eq_true (evL_is.2 ⟨h2, rises_at h h1⟩)⟩

def oneT (ah : Int) (Z C : List (Int × Int)) (ln t : Int) : Option (Int × Int) :=
  if (reallyC C t).2 = true then none else match zoneAll ah Z (reallyC C t).1 with
    | [] => none
    | x :: _ => if timeB (x + ln) = true then some (t, x) else none

theorem oneT_which {ah : Int} {Z C : List (Int × Int)} {ln t : Int} {x : Int × Int} (h : oneT ah Z C ln t = some x) : x.1 = t ∧ timeB x.2 = true ∧ timeB (x.2 + ln) = true ∧ (reallyC C t).2 = false ∧ x.2 ∈ zoneAll ah Z (reallyC C t).1 := by
  unfold oneT at h
  by_cases h1 : (reallyC C t).2 = true
  · rw [if_pos h1] at h; cases h
  rw [if_neg h1] at h
  cases hz : zoneAll ah Z (reallyC C t).1 with
  | nil => rw [hz] at h; cases h
  | cons y r =>
    rw [hz] at h
    simp only at h
    by_cases h2 : timeB (y + ln) = true
    · rw [if_pos h2] at h
      cases h
      have hm : y ∈ zoneAll ah Z (reallyC C t).1 := by rw [hz]; exact List.mem_cons_self
      exact ⟨rfl, (zoneAll_mem.1 hm).1, h2, by simpa using h1, by simp⟩
    · rw [if_neg h2] at h; cases h

def winT (ah : Int) (Z C : List (Int × Int)) (ln a b t : Int) : Option (Int × Int) := (oneT ah Z C ln t).filter fun x => decide (a ≤ x.2) && decide (x.2 < b)

theorem winT_mem {ah : Int} {Z C : List (Int × Int)} {ln a b t : Int} {x : Int × Int} : winT ah Z C ln a b t = some x ↔ oneT ah Z C ln t = some x ∧ a ≤ x.2 ∧ x.2 < b := by
  rw [winT, Option.filter_eq_some_iff]
  simp only [Bool.and_eq_true, decide_eq_true_eq]

structure EvFacts (st ln : Int) (rp : Bool) (fr ev ct ti : Int) (mo da : List Int) (we : List (Int × Int)) (pk M N : List Int) (C : List (Int × Int)) (A : List Alm) : Prop where
  ok : EvOk rp st fr ev ct ti mo da we pk M
  ln : 0 ≤ ln ∧ ln ≤ 100000
  lenM : M.length ≤ 100
  lenN : N.length ≤ 100
  lenC : C.length ≤ 100
  lenA : A.length ≤ 4
  tM : ∀ t ∈ M, timeB t = true
  tC : ∀ c ∈ C, timeB c.1 = true ∧ (c.2 = 0 ∨ timeB c.2 = true)
  upC : C.Pairwise (fun x y => x.1 < y.1)
  alm : ∀ a ∈ A, almBad a = false

theorem evF_facts {nm tx : List UInt8} {st ln : Int} {rp : Bool} {fr ev ct ti : Int} {mo da : List Int} {we : List (Int × Int)} {pk M N : List Int} {C : List (Int × Int)} {A : List Alm} (h : evF nm tx st ln rp fr ev ct ti mo da we pk M N C A = 0) :
    EvFacts st ln rp fr ev ct ti mo da we pk M N C A := by
  obtain ⟨-, h2, -, h4, h5, h6, h7, h8⟩ := evF_ok h
  unfold evB at h2; simp only [Bool.or_eq_false_iff, decide_eq_false_iff_not] at h2
  unfold evD at h5; simp only [Bool.or_eq_false_iff, decide_eq_false_iff_not] at h5
  unfold evE at h6; simp only [Bool.or_eq_false_iff, List.any_eq_false] at h6
  unfold evR at h7; simp only [Bool.or_eq_false_iff, Bool.not_eq_false'] at h7
  refine ⟨evF_EvOk h, by omega, by omega, by omega, by omega, by omega, fun t ht => ?_, fun c hc => ⟨?_, ?_⟩, ?_, fun a ha => ?_⟩
  · have := h6.1 t (by simp [ht])
    exact badT_no (by simpa using this)
  · have := h6.1 c.1 (by simp only [List.mem_append, List.mem_map]; exact .inr ⟨c, hc, rfl⟩)
    exact badT_no (by simpa using this)
  · have := h6.2 c hc
    unfold badC at this
    by_cases h0 : c.2 = 0
    · exact .inl h0
    · right
      simpa [h0] using this
  · have h9 := h7.2
    unfold risesB at h9
    have h10 := of_decide_eq_true h9
    exact List.pairwise_map.1 h10
  · have := List.any_eq_false.1 h8 a ha
    simpa using this

theorem tms_time {mi : Int} {E : List Int} (h : ∀ z ∈ E, 1 ≤ z ∧ z ≤ 109573) (h1 : 0 ≤ mi) (h2 : mi < 1440) {x : Int} (hx : x ∈ tmsL mi E) : 0 ≤ x ∧ x < 157785120 := by
  obtain ⟨z, hz, rfl⟩ := List.mem_map.1 hx
  have := h z hz
  rw [evT_in this.1 this.2 h1 h2]
  omega

theorem ruleT_time {rp : Bool} {st fr ev ct ti : Int} {mo da : List Int} {we : List (Int × Int)} {pk M : List Int} (h : EvOk rp st fr ev ct ti mo da we pk M) {x : Int} (hx : x ∈ ruleT rp st fr ev ct ti mo da we pk) : 0 ≤ x ∧ x < 157785120 := by
  obtain ⟨h1, h2, h3⟩ := h
  obtain ⟨t1, t2⟩ := timeB_yes h1
  unfold ruleT at hx
  cases rp
  · simp at hx; omega
  · rw [if_pos rfl] at hx
    obtain ⟨y, m, d, hd, hn⟩ := Cal.ex_date (st / 1440 + 1) (by omega) (by omega)
    rw [daysAt_eq hd hn] at hx
    exact tms_time (eachL_up hd hn (ruleF_0 (h2 rfl)).2.1).2 (by omega) (by omega) hx

theorem ruleT_len {rp : Bool} {st fr ev ct ti : Int} {mo da : List Int} {we : List (Int × Int)} {pk M : List Int} (h : EvOk rp st fr ev ct ti mo da we pk M) : (ruleT rp st fr ev ct ti mo da we pk).length ≤ 109573 := by
  obtain ⟨h1, h2, h3⟩ := h
  obtain ⟨t1, t2⟩ := timeB_yes h1
  unfold ruleT
  cases rp
  · simp
  · rw [if_pos rfl]
    obtain ⟨y, m, d, hd, hn⟩ := Cal.ex_date (st / 1440 + 1) (by omega) (by omega)
    rw [daysAt_eq hd hn, tmsL, List.length_map]
    exact eachL_len hd hn (ruleF_0 (h2 rfl)).2.1

def Lt2 (x y : Int × Int) : Prop := x.2 < y.2 ∨ (x.2 = y.2 ∧ x.1 < y.1)

theorem lt2_irr (x : Int × Int) : ¬ Lt2 x x := by unfold Lt2; omega
theorem lt2_trans {x y z : Int × Int} (h1 : Lt2 x y) (h2 : Lt2 y z) : Lt2 x z := by unfold Lt2 at *; omega
theorem lt2_tot {x y : Int × Int} (h1 : ¬ Lt2 y x) (h2 : x ≠ y) : Lt2 x y := by
  unfold Lt2 at *
  by_cases h : x.1 = y.1
  · by_cases h3 : x.2 = y.2
    · exact absurd (Prod.ext h h3) h2
    · omega
  · omega

theorem ord_ext {α : Type} {R : α → α → Prop} (irr : ∀ x, ¬ R x x) (tr : ∀ {x y z}, R x y → R y z → R x z) : ∀ (a b : List α), a.Pairwise R → b.Pairwise R → (∀ x, x ∈ a ↔ x ∈ b) → a = b
  | [], [], _, _, _ => rfl
  | [], y :: b, _, _, h => absurd ((h y).2 List.mem_cons_self) (by simp)
  | x :: a, [], _, _, h => absurd ((h x).1 List.mem_cons_self) (by simp)
  | x :: a, y :: b, ha, hb, h => by
    rw [List.pairwise_cons] at ha hb
    have hxy : x = y := by
      rcases List.mem_cons.1 ((h x).1 List.mem_cons_self) with h1 | h1
      · exact h1
      · rcases List.mem_cons.1 ((h y).2 List.mem_cons_self) with h2 | h2
        · exact h2.symm
        · exact absurd (tr (ha.1 y h2) (hb.1 x h1)) (irr _)
    subst hxy
    refine congrArg _ (ord_ext irr tr a b ha.2 hb.2 fun z => ⟨fun hz => ?_, fun hz => ?_⟩)
    · rcases List.mem_cons.1 ((h z).1 (List.mem_cons_of_mem _ hz)) with rfl | h1
      · exact absurd (ha.1 z hz) (irr _)
      · exact h1
    · rcases List.mem_cons.1 ((h z).2 (List.mem_cons_of_mem _ hz)) with rfl | h1
      · exact absurd (hb.1 z hz) (irr _)
      · exact h1

def leT (x y : Int × Int) : Bool := decide (x.2 < y.2) || (decide (x.2 = y.2) && decide (x.1 ≤ y.1))

def srtT (L : List (Int × Int)) : List (Int × Int) := L.mergeSort leT

theorem srtT_len (L : List (Int × Int)) : (srtT L).length = L.length := List.length_mergeSort L

theorem leT_iff {x y : Int × Int} : leT x y = true ↔ ¬ Lt2 y x := by
  simp only [leT, Lt2, Bool.or_eq_true, Bool.and_eq_true, decide_eq_true_eq]; omega

theorem srtT_ord {L : List (Int × Int)} (hn : L.Nodup) : (srtT L).Pairwise Lt2 := by
  have h := List.pairwise_mergeSort (le := leT) (fun a b c h1 h2 => by simp only [leT, Bool.or_eq_true, Bool.and_eq_true, decide_eq_true_eq] at *; omega) (fun a b => by simp only [leT, Bool.or_eq_true, Bool.and_eq_true, decide_eq_true_eq]; omega) L
  have h2 : (L.mergeSort leT).Nodup := (List.mergeSort_perm L leT).nodup_iff.2 hn
  refine (h.and h2).imp ?_
  rintro x y ⟨h3, h4⟩
  exact lt2_tot (leT_iff.1 h3) h4

def whichL (B M N : List Int) (C : List (Int × Int)) (a b : Int) : List Int := Lib.compact (srt (evL B M N (a - 2000) (b + 2000) ++ (chgL B M N C).map (·.1)))

def tmsOf (ah : Int) (Z : List (Int × Int)) (B M N : List Int) (C : List (Int × Int)) (ln a b : Int) : List (Int × Int) := srtT ((whichL B M N C a b).filterMap (winT ah Z C ln a b))

theorem whichL_up (B M N : List Int) (C : List (Int × Int)) (a b : Int) : (whichL B M N C a b).Pairwise (· < ·) := by unfold whichL srt; exact sortC_rises _

theorem win_nodup {ah : Int} {Z C : List (Int × Int)} {ln a b : Int} : ∀ {K : List Int}, K.Pairwise (· < ·) → (K.filterMap (winT ah Z C ln a b)).Nodup
  | [], _ => by simp
  | t :: K, h => by
    rw [List.pairwise_cons] at h
    cases hw : winT ah Z C ln a b t with
    | none => rw [List.filterMap_cons_none hw]; exact win_nodup h.2
    | some x =>
      rw [List.filterMap_cons_some hw, List.nodup_cons]
      refine ⟨fun hm => ?_, win_nodup h.2⟩
      obtain ⟨s, hs, he⟩ := List.mem_filterMap.1 hm
      have h1 := (oneT_which (winT_mem.1 hw).1).1
      have h2 := (oneT_which (winT_mem.1 he).1).1
      have := h.1 s hs
      omega

theorem tmsOf_ord (ah : Int) (Z : List (Int × Int)) (B M N : List Int) (C : List (Int × Int)) (ln a b : Int) : (tmsOf ah Z B M N C ln a b).Pairwise Lt2 := srtT_ord (win_nodup (whichL_up ..))

def MayZ (ah : Int) (Z : List (Int × Int)) : Prop := ∀ t, -900 ≤ zoneOf ah Z t ∧ zoneOf ah Z t ≤ 900

theorem tmsOf_mem {ah : Int} {Z : List (Int × Int)} {B M N : List Int} {C : List (Int × Int)} {ln a b : Int} (hz : MayZ ah Z) (hC : C.Pairwise (fun x y => x.1 < y.1)) {x : Int × Int} :
    x ∈ tmsOf ah Z B M N C ln a b ↔ IsT B M N x.1 ∧ oneT ah Z C ln x.1 = some x ∧ a ≤ x.2 ∧ x.2 < b := by
  unfold tmsOf srtT
  rw [List.mem_mergeSort, List.mem_filterMap]
  constructor
  · rintro ⟨t, ht, hw⟩
    obtain ⟨h1, h2, h3⟩ := winT_mem.1 hw
    have e := (oneT_which h1).1
    rw [e]
    refine ⟨?_, h1, h2, h3⟩
    unfold whichL srt at ht
    rw [sortC_mem, List.mem_append] at ht
    rcases ht with ht | ht
    · exact (evL_is.1 ht).1
    · obtain ⟨c, hc, rfl⟩ := List.mem_map.1 ht
      exact ((chgL_mem hC).1 hc).2
  · rintro ⟨h1, h2, h3, h4⟩
    refine ⟨x.1, ?_, winT_mem.2 ⟨h2, h3, h4⟩⟩
    unfold whichL srt
    rw [sortC_mem, List.mem_append]
    cases hf : C.find? (fun c => c.1 == x.1) with
    | none =>
      left
      have hm := (oneT_which h2).2.2.2.2
      rw [reallyC, hf] at hm
      have := (zoneAll_mem.1 hm).2
      have := hz x.2
      simp only at *
      exact evL_is.2 ⟨h1, by omega, by omega⟩
    | some c =>
      right
      have h5 := List.mem_of_find?_eq_some hf
      have h6 : c.1 = x.1 := by simpa using List.find?_some hf
      exact List.mem_map.2 ⟨c, (chgL_mem hC).2 ⟨h5, by rw [h6]; exact h1⟩, h6⟩

end Go.Proofs.YtgelojhpanbnaaaGreatDoor

namespace Go.Proofs.YtgelojhpanbnaaaGreatDoor
open Go.RowKit Go.Shelf
set_option linter.unusedSimpArgs false
set_option linter.unusedVariables false

def FoundAt (C : List (Int × Int)) (t : Int) (k : Nat) (b : Bool) : Prop := (b = true ∧ ∃ h : k < C.length, C[k].1 = t) ∨ (b = false ∧ ∀ c ∈ C, c.1 ≠ t)

def SearchP (C : List (Int × Int)) (t : Int) (w : World) (e : Ending) (w' : World) : Prop := ∃ (k : Nat) (b : Bool), e = .returned (.tuple #[.int .i64 k, .bool b]) ∧ FoundAt C t k b ∧ Below w.heap.size w w'

theorem found_yes {C : List (Int × Int)} {t : Int} {k : Nat} (hp : C.Pairwise (fun x y => x.1 < y.1)) (h : k < C.length) (he : C[k].1 = t) : reallyC C t = (C[k].2, C[k].2 == 0) := by
  have hf : C.find? (fun c => c.1 == t) = some C[k] := by
    rw [List.find?_eq_some_iff_getElem]
    refine ⟨by simpa using he, k, h, rfl, fun j hj => ?_⟩
    have := List.pairwise_iff_getElem.1 hp j k (by omega) h hj
    simp; omega
  rw [reallyC, hf]

theorem found_no {C : List (Int × Int)} {t : Int} (h : ∀ c ∈ C, c.1 ≠ t) : reallyC C t = (t, false) := by
  have hf : C.find? (fun c => c.1 == t) = none := by
    rw [List.find?_eq_none]; intro c hc; simpa using h c hc
  rw [reallyC, hf]

theorem chcmp_any (x y t : Int) (w : World) :
    Calls Tryz.prog 157 #[.agg #[.int .i64 x, .int .i64 y], .int .i64 t] w fun e w' => e = .returned (.int .i64 (cmpQ x t)) ∧ Below w.heap.size w w' := by
  have hb : Below w.heap.size w (w.alloc (.cells #[.int .i64 x, .int .i64 y] 134)) := (Below.refl _ _).alloc (Nat.le_refl _) _
  have HB := Lib.hid hb
  clear hb
  go_enter Tryz.func157, Tryz.ntmps157
  go_wp2_with fail
  refine (cmpq_any x t _).mono ?_; rintro e w1 ⟨rfl, rfl⟩
  go_wp2
  go_ret
  exact ⟨rfl, HB.out⟩

set_option maxRecDepth 100000 in
set_option maxHeartbeats 4000000 in
theorem csearch_any (v : Value) (C : List (Int × Int)) (t : Int) (w : World) (hC : PairsR w v C) (hp : C.Pairwise (fun x y => x.1 < y.1)) (hl : C.length ≤ 1000) :
    Calls Tryz.prog 156 #[v, .int .i64 t, .func (.func 157) #[] #[]] w (SearchP C t w) := by
  obtain ⟨a, cap, rfl, k1, k2, hds⟩ := pairsR_open hC
  have HC := Lib.hid hds; have HP := Lib.hid hp
  clear hds hC hp
  unfold maxLen at k2
  have eg : ∀ args w, (callFunc 157 args).run Tryz.prog w = .ok (.enter 157 args) w := enters_of Tryz.func157 (by kernel_rfl) rfl
  go_enter Tryz.func156, Tryz.ntmps156
  go_wp2
  go_loopg [9, 10] C.length (fun g s9 s10 wr => ∃ lo hi : Nat, s9 = .int .i64 lo ∧ s10 = .int .i64 hi ∧ lo ≤ hi ∧ hi ≤ C.length ∧ hi - lo ≤ g ∧ Hid (Below w.heap.size w wr) ∧ Hid (∀ i (h : i < C.length), (i < lo → C[i].1 < t) ∧ (hi ≤ i → t ≤ C[i].1)))
  case atStart => exact ⟨0, C.length, rfl, rfl, Nat.zero_le _, Nat.le_refl _, by omega, Lib.hid (Below.refl _ _), Lib.hid (fun i h => ⟨fun h1 => by omega, fun h1 => by omega⟩)⟩
  case round =>
    obtain ⟨lo, hi, rfl, rfl, hlh, hin, hg, B, I⟩ := hrel
    have G := Lib.hid hg
    clear hg
    by_cases hlt : lo < hi
    · obtain ⟨b, off, rfl, hcs⟩ := HC.out (by omega)
      obtain ⟨m, hm⟩ : ∃ m, m = (lo + hi) / 2 := ⟨_, rfl⟩
      have hml : m < C.length := by omega
      obtain ⟨x, hx⟩ : ∃ x, x = C[m].1 := ⟨_, rfl⟩
      obtain ⟨y, hy⟩ : ∃ y, y = C[m].2 := ⟨_, rfl⟩
      obtain ⟨c0, c1⟩ := hcs m hml
      rw [← hx] at c0
      rw [← hy] at c1
      have c0 := cell_below B.out c0
      have c1 := cell_below B.out c1
      rw [hm] at c0 c1
      have X := Lib.hid hx; have M := Lib.hid hm
      clear hcs hx hy hm
      go_wp2_with fail
      refine (chcmp_any x y t _).mono ?_; rintro e w1 ⟨rfl, hb1⟩
      have B1 := Lib.hid (B.out.trans (hb1.mono B.out.size))
      clear hb1 c0 c1
      have hq : x < t ∨ t ≤ x := by omega
      rcases hq with hq | hq
      · have d1 : decide (cmpQ x t < 0) = true := decide_eq_true (by unfold cmpQ; rw [if_pos hq]; decide)
        have Q := Lib.hid hq
        clear hq
        go_wp2
        go_roundg (hi - (m + 1))
        case measure => have := G.out; have := M.out; omega
        case rel =>
          have hM := M.out
          exact ⟨m + 1, hi, by rw [hM, show ((lo : Int) + (hi : Int)) / 2 + 1 = (((lo + hi) / 2 + 1 : Nat) : Int) by omega], rfl, by omega, hin, Nat.le_refl _, B1, Lib.hid (fun i h => ⟨fun h1 => by
            by_cases hi2 : i = m
            · subst hi2; rw [← X.out]; exact Q.out
            · have := List.pairwise_iff_getElem.1 HP.out i m h hml (by omega); rw [← X.out] at this; have := Q.out; omega, (I.out i h).2⟩)⟩
      · have d1 : decide (cmpQ x t < 0) = false := decide_eq_false (by unfold cmpQ; rw [if_neg (by omega)]; split <;> omega)
        have Q := Lib.hid hq
        clear hq
        go_wp2
        go_roundg (m - lo)
        case measure => have := G.out; have := M.out; omega
        case rel =>
          have hM := M.out
          exact ⟨lo, m, rfl, by rw [hM, show ((lo : Int) + (hi : Int)) / 2 = (((lo + hi) / 2 : Nat) : Int) by omega], by omega, by omega, Nat.le_refl _, B1, Lib.hid (fun i h => ⟨(I.out i h).1, fun h1 => by
            by_cases hi2 : i = m
            · subst hi2; rw [← X.out]; exact Q.out
            · have := List.pairwise_iff_getElem.1 HP.out m i hml h (by omega); rw [← X.out] at this; have := Q.out; omega⟩)⟩
    · obtain rfl : hi = lo := by omega
      by_cases hn : hi < C.length
      · obtain ⟨b, off, rfl, hcs⟩ := HC.out (by omega)
        obtain ⟨c0, c1⟩ := hcs hi hn
        have c0 := cell_below B.out c0
        have c1 := cell_below B.out c1
        obtain ⟨x, hx⟩ : ∃ x, x = C[hi].1 := ⟨_, rfl⟩
        obtain ⟨y, hy⟩ : ∃ y, y = C[hi].2 := ⟨_, rfl⟩
        rw [← hx] at c0
        rw [← hy] at c1
        have X := Lib.hid hx
        have hxt : t ≤ x := by rw [hx]; exact (I.out hi hn).2 (Nat.le_refl _)
        clear hcs hx hy
        have i2 : (hi : Int) < (C.length : Int) := by omega
        go_wp2_with fail
        refine (chcmp_any x y t _).mono ?_; rintro e w1 ⟨rfl, hb1⟩
        have B1 := Lib.hid (B.out.trans (hb1.mono B.out.size))
        clear hb1 c0 c1
        by_cases hq : x = t
        · have d1 : (cmpQ x t == 0) = true := by simp [cmpQ, hq]
          have Q := Lib.hid hq
          clear hq
          go_wp2
          go_ret2
          exact ⟨hi, true, by first | rfl | simp [*], .inl ⟨rfl, hn, by rw [← X.out]; exact Q.out⟩, B1.out⟩
        · have d1 : (cmpQ x t == 0) = false := by
            have : cmpQ x t = 1 := by unfold cmpQ; rw [if_neg (by omega), if_pos (by omega)]
            rw [this]; rfl
          have Q := Lib.hid hq
          clear hq
          go_wp2
          go_ret2
          refine ⟨hi, false, by first | rfl | simp [*], .inr ⟨rfl, fun c hc he => ?_⟩, B1.out⟩
          obtain ⟨i, hi2, rfl⟩ := List.mem_iff_getElem.1 hc
          have h1 := I.out i hi2
          rcases Nat.lt_trichotomy i hi with h | h | h
          · have := h1.1 h; omega
          · subst h; exact Q.out (X.out.trans he)
          · have := List.pairwise_iff_getElem.1 HP.out hi i hn hi2 h; rw [← X.out] at this; omega
      · have i2 : ¬ (hi : Int) < (C.length : Int) := by omega
        go_wp2
        go_ret2
        refine ⟨hi, false, by first | rfl | simp [*], .inr ⟨rfl, fun c hc he => ?_⟩, B.out⟩
        obtain ⟨i, hi2, rfl⟩ := List.mem_iff_getElem.1 hc
        have := (I.out i hi2).1 (by omega); omega

end Go.Proofs.YtgelojhpanbnaaaGreatDoor

namespace Go.Proofs.YtgelojhpanbnaaaGreatDoor
open Go.RowKit Go.Shelf
set_option linter.unusedSimpArgs false
set_option linter.unusedVariables false

end Go.Proofs.YtgelojhpanbnaaaGreatDoor

namespace Go.Proofs.YtgelojhpanbnaaaGreatDoor
open Go.RowKit Go.Shelf
set_option linter.unusedSimpArgs false
set_option linter.unusedVariables false

end Go.Proofs.YtgelojhpanbnaaaGreatDoor
