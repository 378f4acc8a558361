/- event.Of of an event that repeats: plain facts about its times. -/
import Derived.Test.YtkpmddlinlcobaaDoorEvO
import Derived.Test.YtkpmddlinlcobaaDoorSeqG
import Derived.Test.YtkpmddlinlcobaaDoorSeqH
namespace Go.Proofs.YtkpmddlinlcobaaDoor
open Go.RowKit Go.Shelf
set_option linter.unusedSimpArgs false
set_option linter.unusedVariables false

/-- a day's time at a minute, as the program reckons it. -/
def evT (mi x : Int) : Int := wrap64 (wrap64 (wrap64 (x - 1) * 1440) + mi)

theorem evT_in {mi x : Int} (h1 : 1 ≤ x) (h2 : x ≤ 109573) (h3 : 0 ≤ mi) (h4 : mi < 1440) : evT mi x = (x - 1) * 1440 + mi := by
  unfold evT
  rw [IntWalk.wrap64_in (x - 1) (by omega), IntWalk.wrap64_in ((x - 1) * 1440) (by omega), IntWalk.wrap64_in ((x - 1) * 1440 + mi) (by omega)]

/-- the times of the days E at a minute. -/
def tmsL (mi : Int) (E : List Int) : List Int := E.map (evT mi)

theorem tmsL_append (mi : Int) (E F : List Int) : tmsL mi (E ++ F) = tmsL mi E ++ tmsL mi F := List.map_append ..

theorem tms_next (mi a b : Int) (p : List Int) (x : Int) : inR a b (tmsL mi (p ++ [x])) = inR a b (tmsL mi p) ++ inR a b [evT mi x] := by
  rw [tmsL_append, inR_append]; rfl

theorem tms_len (mi a b : Int) (E : List Int) : (inR a b (tmsL mi E)).length ≤ E.length := by
  have h : (inR a b (tmsL mi E)).length ≤ (tmsL mi E).length := List.length_filter_le ..
  simpa [tmsL] using h

theorem tms_stop {E p : List Int} {x mi a b : Int} (hE : E.Pairwise (· < ·)) (hb : ∀ z ∈ E, 1 ≤ z ∧ z ≤ 109573) (h3 : 0 ≤ mi) (h4 : mi < 1440) (h : p ++ [x] <+: E) (hx : b < evT mi x) : inR a b (tmsL mi p) = inR a b (tmsL mi E) := by
  obtain ⟨r, rfl⟩ := h
  have hxb := hb x (by simp)
  rw [evT_in hxb.1 hxb.2 h3 h4] at hx
  rw [List.append_assoc, tmsL_append, inR_append]
  have : inR a b (tmsL mi ([x] ++ r)) = [] := by
    unfold inR tmsL
    rw [List.filter_eq_nil_iff]
    intro t ht
    obtain ⟨z, hz, rfl⟩ := List.mem_map.1 ht
    have h3' := (List.pairwise_append.1 hE).1
    have h4' := (List.pairwise_append.1 h3').2.2
    have hzb := hb z (by rw [List.append_assoc]; exact List.mem_append.2 (.inr hz))
    rw [evT_in hzb.1 hzb.2 h3 h4]
    have hle : x ≤ z := by
      rcases List.mem_append.1 hz with hz | hz
      · have : z = x := by simpa using hz
        omega
      · have := (List.pairwise_append.1 hE).2.2 x (by simp) z hz
        omega
    simp; omega
  rw [this, List.append_nil]

/-- what event.Of knows between two rounds over its rule's days. -/
def EvI (a b mi : Int) (w0 : World) (ob mb kb : Nat) (kv : Value) (Pr : Nat → Prop) (pre : List Int) (W : World) : Prop :=
  Col w0 ob 22 3 (fun k => Pr k ∨ k = mb ∨ k = kb) (inR a b (tmsL mi pre)) W ∧ Var mb 3 (.int .i64 mi) Pr W ∧ Var kb 58 kv Pr W

theorem EvI.step {a b mi : Int} {w0 : World} {ob mb kb : Nat} {kv : Value} {Pr Pr' : Nat → Prop} {pre : List Int} {W W' : World} (h : EvI a b mi w0 ob mb kb kv Pr pre W) (hs : StepP w0.heap.size Pr W W') (hp : ∀ k, Pr' k → Pr k ∨ (W.heap.size ≤ k ∧ k < W'.heap.size)) : EvI a b mi w0 ob mb kb kv Pr' pre W' :=
  ⟨h.1.step (hs.widen fun _ => .inl) (fun k hk => by
    rcases hk with hk | hk
    · rcases hp k hk with h1 | h1
      · exact .inl (.inl h1)
      · exact .inr h1
    · exact .inl (.inr hk)), h.2.1.step hs hp, h.2.2.step hs hp⟩

/-- the list that is gathered, beside the keep cell and a range's record. -/
theorem Col.swap {w0 : World} {ob kb D : Nat} {T e tk : TypeId} {kv : Value} {Pr : Nat → Prop} {xs : List Int} {W : World} {o : Option (List Deferred)} (h : Col w0 ob T e Pr xs W) (hk : Boxed W kb tk kv) (hte : tk ≠ e) (hok : ob ≠ kb) (hD : W.heap[D]? = some (.deferred o)) :
    Col w0 ob T e (fun k => k = kb ∨ k = D) xs W := by
  obtain ⟨⟨hb, hob, _⟩, v, hv, hr, _, _⟩ := h
  refine ⟨⟨hb, hob, ?_⟩, v, hv, hr, ?_, ?_⟩
  · rintro k (rfl | rfl)
    · exact hk.lt
    · exact (Array.getElem?_eq_some_iff.1 hD).1
  · rintro (h | h)
    · exact hok h
    · subst h
      have := (show W.heap[ob]? = _ from hv).symm.trans hD
      simp at this
  · rintro g hg (h | h)
    · subst h
      exact hk.not_row hte hr hg.symm
    · subst h
      rcases hr.2 with ⟨rfl, _⟩ | ⟨g', cap, cur, rfl, _, hgb, _⟩
      · cases hg
      · obtain rfl : g' = g := by simpa [Value.ownBlock] using hg
        have := hgb.symm.trans hD
        simp at this

/-- a range's record outlives what happens to a row. -/
theorem grown_rec {w w' : World} {base n cw D : Nat} {e : TypeId} {v : Value} {xs : List Value} {o : Option (List Deferred)} (hr : w.ownsRow base e cw v n xs) (hg : w.grownBy w' v.ownBlock) (hD : w.heap[D]? = some (.deferred o)) : w'.heap[D]? = some (.deferred o) := by
  refine (hg.block D (Array.getElem?_eq_some_iff.1 hD).1 ?_).trans hD
  intro h
  rcases hr.2 with ⟨rfl, _⟩ | ⟨g', cap, cur, rfl, _, hgb, _⟩
  · cases h
  · obtain rfl : D = g' := by simpa [Value.ownBlock] using h
    have := hgb.symm.trans hD
    simp at this

end Go.Proofs.YtkpmddlinlcobaaDoor
