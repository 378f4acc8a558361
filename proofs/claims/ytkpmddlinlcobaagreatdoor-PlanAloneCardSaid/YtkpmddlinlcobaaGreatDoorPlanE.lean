/- Lists of times, one by one, as they lie. -/
import Derived.Test.YtkpmddlinlcobaaGreatDoorPlanA
import Derived.Test.YtkpmddlinlcobaaGreatDoorBuild
namespace Go.Proofs.YtkpmddlinlcobaaGreatDoor
open Go.RowKit Go.Shelf

/-- lists of times, one by one, as they lie. -/
theorem tss_at {B : Nat} {w : World} {v : Value} {T : List TL} {S : List Value} (h : TssS B w v T S) : ∃ a cap, v = .slice a T.length cap ∧ T.length ≤ cap ∧ cap ≤ maxLen ∧ (0 < T.length → ∃ g, a = some ⟨g, 0, none⟩ ∧ ∀ (i : Nat) (hi : i < T.length), ∃ p c, w.cell? ⟨g, i, none⟩ = some (.slice p T[i].2.length c) ∧ TmsR T[i].1 w (.slice p T[i].2.length c) T[i].2) := by
  obtain ⟨a, cap, rfl, h1, h2, h3⟩ := owns_cells h.own
  refine ⟨a, cap, rfl, h2, h1, fun hp => ?_⟩
  obtain ⟨g, rfl, -, hc⟩ := h3 hp
  refine ⟨g, rfl, fun i hi => ?_⟩
  have hi2 : i < S.length := by rw [h.len]; exact hi
  have ht := h.tms i hi hi2
  obtain ⟨p, c, hs, -, -, -⟩ := tmsR_open ht
  exact ⟨p, c, by rw [← hs]; exact hc i _ (List.getElem?_eq_getElem hi2), by rw [← hs]; exact ht⟩

/-- events in a block of their own. -/
theorem evs_new {w : World} {t : TypeId} (L : List Ev) (h : ∀ e ∈ L, e.Rd w) (hl : L.length ≤ maxLen) : EvsR (w.alloc (.cells (L.flatMap Ev.cells).toArray t)) (.slice (some ⟨w.heap.size, 0, none⟩) L.length L.length) L := by
  refine ⟨⟨_, _, rfl, ?_, Nat.le_refl _, hl, fun _ => ⟨w.heap.size, 0, rfl, fun j u hj => ?_⟩⟩, fun e he => (h e he).below ((Below.refl _ _).alloc (Nat.le_refl _) _)⟩
  · induction L with
    | nil => rfl
    | cons e L ih =>
      have hi := ih (fun e he => h e (List.mem_cons_of_mem _ he)) (by simp at hl; omega)
      rw [List.flatMap_cons, List.length_append, hi, List.length_cons, ev_cells_len, Nat.add_mul]; omega
  · rw [Nat.zero_add, World.cell?_alloc_new, List.getElem?_toArray]; exact hj

theorem evInfo2 : (Tryz.prog.info? 29).map (fun i => (i.zero.map (fun z => z.cells.size), i.size)) = some (some 17, 17) := by kernel_rfl

theorem ev_info : ∃ i z, Tryz.prog.info? 29 = some i ∧ i.zero = some z ∧ i.size = 17 ∧ z.cells.size = 17 := by
  have h := evInfo2
  cases hi : Tryz.prog.info? 29 with
  | none => rw [hi] at h; cases h
  | some i =>
    rw [hi] at h
    simp only [Option.map_some, Option.some.injEq, Prod.mk.injEq] at h
    cases hz : i.zero with
    | none => rw [hz] at h; cases h.1
    | some z => rw [hz] at h; exact ⟨i, z, rfl, hz, h.2, by simpa using h.1⟩

/-- events in a block of their own, cell by cell. -/
theorem evs_new2 {w : World} {t : TypeId} (L : List Ev) (cs : Array Value) (hcs : cs.toList = L.flatMap Ev.cells) (h : ∀ e ∈ L, e.Rd w) (hl : L.length ≤ maxLen) : EvsR (w.alloc (.cells cs t)) (.slice (some ⟨w.heap.size, 0, none⟩) L.length L.length) L := by
  have e : cs = (L.flatMap Ev.cells).toArray := by rw [← hcs]
  rw [e]
  exact evs_new L h hl

end Go.Proofs.YtkpmddlinlcobaaGreatDoor
