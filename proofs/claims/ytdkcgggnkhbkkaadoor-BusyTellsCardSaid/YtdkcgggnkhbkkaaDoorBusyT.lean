/- What each of busy answers, in one word. -/
import Derived.Test.YtdkcgggnkhbkkaaDoorRefZb
import Derived.Test.YtdkcgggnkhbkkaaDoorRefU
import Derived.Test.YtdkcgggnkhbkkaaDoorErr
import Derived.Deep.CutBlock
namespace Go.Proofs.YtdkcgggnkhbkkaaDoor
open Go.RowKit
set_option linter.unusedSimpArgs false
set_option linter.unusedVariables false

/-- what each answers, in one word. -/
def normW (A : List (Int × Int)) : List (Int × Int) := if busyE A = 0 then normL A else []
def joinW (A B : List (Int × Int)) : List (Int × Int) := if joinE A B = 0 then normL (A ++ B) else []
def freeW (A : List (Int × Int)) (a b : Int) : List (Int × Int) := if freeE A a b = 0 then freeL b (normL A) a else []
def slotE (A : List (Int × Int)) (a b n : Int) : Int := if freeE A a b = 0 then firstE n (freeL b (normL A) a) else freeE A a b
def slotV (A : List (Int × Int)) (a b n : Int) : Int := if freeE A a b = 0 then firstV n (freeL b (normL A) a) else 0

theorem freeE_two {A : List (Int × Int)} {a b : Int} (h : freeE A a b = 0) : busyE A = 0 ∧ strE a b = 0 := by
  unfold freeE at h; split at h
  · exact ⟨by assumption, h⟩
  · contradiction

theorem norm_or (v : Value) (A : List (Int × Int)) (w : World) (h : PairsR w v A) :
    Calls Tryd.prog 20 #[v] w fun e w' => ∃ u, e = .returned (.tuple #[u, errV (busyE A)]) ∧ PairsR w' u (normW A) ∧ Below w.heap.size w w' := by
  by_cases h1 : busyE A = 0
  · refine (norm_yes v A w h h1).mono ?_
    rintro e w' ⟨u, rfl, ho, hb⟩
    exact ⟨u, by rw [h1]; rfl, by rw [normW, if_pos h1]; exact ownsRow_reads ho, hb⟩
  · refine (norm_no v A w h h1).mono ?_
    rintro e w' ⟨rfl, hb⟩
    exact ⟨_, rfl, by rw [normW, if_neg h1]; exact reads_nil _ _, hb⟩

theorem total_or (v : Value) (A : List (Int × Int)) (w : World) (h : PairsR w v A) :
    Calls Tryd.prog 22 #[v] w fun e w' => e = .returned (.tuple #[.int .i64 (totL (normW A)), errV (busyE A)]) ∧ Below w.heap.size w w' := by
  by_cases h1 : busyE A = 0
  · refine (total_yes v A w h h1).mono ?_
    rintro e w' ⟨rfl, hb⟩
    exact ⟨by rw [h1, normW, if_pos h1]; rfl, hb⟩
  · refine (total_no v A w h h1).mono ?_
    rintro e w' ⟨rfl, hb⟩
    exact ⟨by rw [normW, if_neg h1]; rfl, hb⟩

theorem join_or (u v : Value) (A B : List (Int × Int)) (w : World) (h : PairsR w u A) (h2 : PairsR w v B) :
    Calls Tryd.prog 23 #[u, v] w fun e w' => ∃ x, e = .returned (.tuple #[x, errV (joinE A B)]) ∧ PairsR w' x (joinW A B) ∧ Below w.heap.size w w' := by
  refine (join_any u v A B w h h2).mono ?_
  rintro e w' ⟨⟨hJ, rfl⟩ | ⟨hJ, m, rfl, hm⟩, hb⟩
  · exact ⟨_, rfl, by rw [joinW, if_neg hJ]; exact reads_nil _ _, hb⟩
  · exact ⟨m, by rw [hJ]; rfl, by rw [joinW, if_pos hJ]; exact hm, hb⟩

theorem free_or (v : Value) (A : List (Int × Int)) (a b : Int) (w : World) (h : PairsR w v A) :
    Calls Tryd.prog 26 #[v, .int .i64 a, .int .i64 b] w fun e w' => ∃ u, e = .returned (.tuple #[u, errV (freeE A a b)]) ∧ PairsR w' u (freeW A a b) ∧ Below w.heap.size w w' := by
  by_cases h1 : freeE A a b = 0
  · refine (free_yes v A a b w h (freeE_two h1).1 (freeE_two h1).2).mono ?_
    rintro e w' ⟨u, rfl, ho, hb⟩
    exact ⟨u, by rw [h1]; rfl, by rw [freeW, if_pos h1]; exact ownsRow_reads ho, hb⟩
  · refine (free_no v A a b w h h1).mono ?_
    rintro e w' ⟨rfl, hb⟩
    exact ⟨_, rfl, by rw [freeW, if_neg h1]; exact reads_nil _ _, hb⟩

theorem slot_or (v : Value) (A : List (Int × Int)) (a b n : Int) (w : World) (h : PairsR w v A) :
    Calls Tryd.prog 28 #[v, .int .i64 a, .int .i64 b, .int .i64 n] w fun e w' => e = .returned (.tuple #[.int .i64 (slotV A a b n), errV (slotE A a b n)]) ∧ Below w.heap.size w w' := by
  by_cases h1 : freeE A a b = 0
  · refine (slot_yes v A a b n w h (freeE_two h1).1 (freeE_two h1).2).mono ?_
    rintro e w' ⟨rfl, hb⟩
    exact ⟨by rw [slotV, slotE, if_pos h1, if_pos h1], hb⟩
  · refine (slot_no v A a b n w h h1).mono ?_
    rintro e w' ⟨rfl, hb⟩
    exact ⟨by rw [slotV, slotE, if_neg h1, if_neg h1], hb⟩

end Go.Proofs.YtdkcgggnkhbkkaaDoor
