/- The law ZoneSteps: of a zone that is so much more ahead at all times it is so much later there, for every input. The walk. -/
import Derived.Test.YtonoiaimknkpfaaZoneB
import Derived.Deep.RegionHeld3
import Derived.Deep.RegionLaw
import Derived.BigRegion
import Derived.StillTailTactics
import Derived.Deep.AppendLies
import Derived.Laws.OwnMore
import Derived.OpenShut
namespace Go.Proofs.Ytonoiaimknkpfaa
open Go.RowKit

theorem local_any (v : Value) (L : List (Int × Int)) (ah t : Int) (w : World) (hL : PairsR w v L) :
    Calls Try.prog 12 #[.agg #[.int .i64 ah, v], .int .i64 t] w fun e w' => (∃ r c : Int, e = .returned (.tuple #[.int .i64 r, errV c]) ∧ (c = 0 → zfault ah L = 0 ∧ timeB t = true ∧ timeB (t + zoneOf ah L t) = true ∧ r = t + zoneOf ah L t)) ∧ Below w.heap.size w w' := by
  by_cases h : localE ah L t = 0
  · have h1 : zfault ah L = 0 := by
      rw [localE] at h
      split at h
      · rename_i h2; exact absurd h h2
      · rename_i h2; simpa using h2
    rw [localE, if_neg (by simpa using h1)] at h
    have h2 : timeB t = true ∧ timeB (t + zoneOf ah L t) = true := by
      split at h
      · assumption
      · cases h
    exact (local_yes v L ah t w hL h1 h2.1 h2.2).mono fun _ _ ⟨he, hb⟩ => ⟨⟨_, 0, he, fun _ => ⟨h1, h2.1, h2.2, rfl⟩⟩, hb⟩
  · exact (local_no v L ah t _ w hL h rfl).mono fun _ _ ⟨he, hb⟩ => ⟨⟨0, localE ah L t, by rw [errV, if_neg h]; exact he, fun h0 => absurd h0 h⟩, hb⟩

theorem shiftInfo : (Try.prog.info? 40).map (fun i => (i.zero, i.size, i.bytes)) = some (some (.agg #[.int .i64 0, .int .i64 0]), 2, 16) := by kernel_rfl

/-- A cell of another block than the row that has grown is as it was. -/
theorem far_cell {w w' : World} {v u : Value} {p : Addr} (hg : w.grownBy w' v.ownBlock) (hn : v.ownBlock ≠ some p.block) (h : w.cell? p = some u) : w'.cell? p = some u := hg.cell h (Ne.symm hn)

theorem far_frozen {w w' : World} {v : Value} {p : Addr} {b : Bool} (hg : w.grownBy w' v.ownBlock) (hn : v.ownBlock ≠ some p.block) (hl : p.block < w.heap.size) (h : w.frozen? p = b) : w'.frozen? p = b := (World.frozen?_of_block (hg.block p.block hl (Ne.symm hn))).trans h

theorem far_frozen0 {w : World} {o : Obj} {b i : Nat} (h : b < w.heap.size) (hf : w.frozen? ⟨b, i, none⟩ = false) : (w.alloc o).drew.frozen? ⟨b, i, none⟩ = false := (World.frozen?_alloc_past o b i h).trans hf

/-- the shifts so much more ahead, as the law's text makes them. -/
def more2 (m : Int) (L : List (Int × Int)) : List (Int × Int) := L.map fun p => (p.1, IntKind.i64.wrap (p.2 + m))

theorem pairsV_snoc (L : List (Int × Int)) (p : Int × Int) : pairsV (L ++ [p]) = pairsV L ++ [.int .i64 p.1, .int .i64 p.2] := by simp [pairsV]

theorem more2_snoc (m : Int) (L : List (Int × Int)) (k : Nat) (h : k < L.length) : more2 m (L.take (k + 1)) = more2 m (L.take k) ++ [(L[k].1, IntKind.i64.wrap (L[k].2 + m))] := by
  rw [List.take_succ_eq_append_getElem h, more2, List.map_append]; rfl

theorem far_cell2 {w w' : World} {v u : Value} {p : Addr} (hg : w.grownBy w' v.ownBlock) (hn : v.ownBlock ≠ some p.block) (h : w.cell? p = some u) : w'.cell? p = some u := far_cell hg hn h

/-- what holds at the loop's head. -/
def StepI (w : World) (yb : Nat) (L : List (Int × Int)) (ah yah m : Int) (zs : Value) (g : Nat) (iv : Value) (wr : World) : Prop :=
  ∃ (k : Nat) (u : Value), k ≤ L.length ∧ k ≤ 30 ∧ iv = .int .i64 k ∧ g = L.length - k ∧ wr.cell? ⟨w.heap.size, 0, none⟩ = some (.int .i64 ah) ∧ wr.cell? ⟨w.heap.size, 1, none⟩ = some zs ∧
    wr.cell? ⟨yb, 0, none⟩ = some (.int .i64 yah) ∧ wr.cell? ⟨yb, 1, none⟩ = some u ∧ wr.frozen? ⟨yb, 1, none⟩ = false ∧ yb < wr.heap.size ∧ wr.ownsRow (yb + 1) 40 2 u k (pairsV (more2 m (L.take k))) ∧ Below w.heap.size w wr

theorem stepI_next {w w3 : World} {yb k gg cap : Nat} {L : List (Int × Int)} {ah yah m : Int} {zs u : Value} (hlt : k < L.length) (h30 : k < 30) (hz : w.heap.size < yb) (hy : yb < w3.heap.size)
    (e0 : w3.cell? ⟨w.heap.size, 0, none⟩ = some (.int .i64 ah)) (e1 : w3.cell? ⟨w.heap.size, 1, none⟩ = some zs) (e2 : w3.cell? ⟨yb, 0, none⟩ = some (.int .i64 yah)) (yy : w3.cell? ⟨yb, 1, none⟩ = some u) (yf : w3.frozen? ⟨yb, 1, none⟩ = false)
    (hge : yb + 1 ≤ gg) (hO : w3.ownsRow (yb + 1) 40 2 (.slice (some ⟨gg, 0, none⟩) (k + 1) cap) (k + 1) (pairsV (more2 m (L.take (k + 1))))) (hB : Below w.heap.size w w3) :
    StepI w yb L ah yah m zs (L.length - (k + 1)) (.int .i64 ((k + 1 : Nat) : Int)) (w3.setCell ⟨yb, 1, none⟩ (.slice (some ⟨gg, 0, none⟩) (k + 1) cap)) := by
  refine ⟨k + 1, _, by omega, by omega, rfl, rfl, ?_, ?_, ?_, World.cell?_setCell_same _ _ _ yy, by rw [World.frozen?_setCell]; exact yf, by simpa [World.setCell] using hy, ?_, hB.setCell (by show w.heap.size ≤ yb; omega) _⟩
  · rw [World.cell?_setCell_other _ _ _ _ (by intro h; injection h with h1; omega)]; exact e0
  · rw [World.cell?_setCell_other _ _ _ _ (by intro h; injection h with h1; omega)]; exact e1
  · rw [World.cell?_setCell_other _ _ _ _ (by intro h; injection h with h1 h2; omega)]; exact e2
  · rcases hO.2 with ⟨h0, _⟩ | ⟨g', cap', cur, hv, hb, hg, hrest⟩
    · cases h0
    · injection hv with e1 _ e3
      injection e1 with e1
      injection e1 with e1
      subst e1; subst e3
      refine ⟨hO.1, .inr ⟨gg, cap, cur, rfl, hb, ?_, hrest⟩⟩
      rw [← hg]
      exact Below.heap_setCell w3 ⟨yb, 1, none⟩ _ gg (by show gg ≠ yb; omega)

theorem zoneOf_more {ah m t : Int} : ∀ (L : List (Int × Int)) (_ : ∀ s ∈ L, mayB s.2 = true) (_ : -900 ≤ m) (_ : m ≤ 900), zoneOf (ah + m) (more2 m L) t = zoneOf ah L t + m := by
  intro L
  induction L generalizing ah with
  | nil => intro _ _ _; rfl
  | cons s r ih =>
    intro h h1 h2
    have hs := may_bd (h s List.mem_cons_self)
    have hw : IntKind.i64.wrap (s.2 + m) = s.2 + m := IntWalk.i64_in _ (by omega)
    have hr := fun (ah : Int) => ih (ah := ah) (fun x hx => h x (List.mem_cons_of_mem _ hx)) h1 h2
    show zoneOf (if s.1 ≤ t then IntKind.i64.wrap (s.2 + m) else ah + m) (more2 m r) t = zoneOf (if s.1 ≤ t then s.2 else ah) r t + m
    rw [hw, ← hr]
    split <;> rfl

theorem more2_len (m : Int) (L : List (Int × Int)) : (more2 m L).length = L.length := by simp [more2]

/-- What the law's last test says. -/
theorem last_ok {L : List (Int × Int)} {ah t m r1 r2 : Int} {k : Nat} (h1 : -900 ≤ m) (h2 : m ≤ 900) (hkl : k ≤ L.length) (hk : k = L.length ∨ k = 30)
    (ha : zfault ah L = 0 ∧ timeB t = true ∧ timeB (t + zoneOf ah L t) = true ∧ r1 = t + zoneOf ah L t) (hb : r2 = t + zoneOf (wrap64 (ah + m)) (more2 m (L.take k)) t) : r2 = r1 + m ∧ -1000000000 ≤ r1 ∧ r1 ≤ 1000000000 := by
  obtain ⟨a1, a2, a3, a4⟩ := ha
  obtain ⟨z1, z2, z3⟩ := zfault_0 a1
  have hz := may_bd z2
  have hw : wrap64 (ah + m) = ah + m := IntWalk.wrap64_in _ (by omega)
  have hall := fun s hs => (shF_may L none z3 s hs).2
  obtain rfl : k = L.length := by omega
  rw [hw, List.take_length, zoneOf_more L hall h1 h2] at hb
  have h5 := timeB_yes a3
  omega

set_option linter.unusedSimpArgs false
set_option maxRecDepth 100000 in
set_option maxHeartbeats 4000000 in
theorem zoneSteps_in (v : Value) (L : List (Int × Int)) (ah t m : Int) (w : World) (hL : PairsR w v L) (h1 : -900 ≤ m) (h2 : m ≤ 900) (h64 : -9223372036854775808 ≤ ah ∧ ah ≤ 9223372036854775807) :
    Calls Try.prog 6 #[.agg #[.int .i64 ah, v], .int .i64 t, .int .i64 m] w fun e w' => e = .returned (.bool true) ∧ Below w.heap.size w w' := by
  obtain ⟨i0, hi, hz0, hz1, hz2⟩ := info_parts shiftInfo
  have f1 : zfault 60 [] = 0 := by decide
  have f2 : timeB 1000 = true := by decide
  have f3 : zoneOf 60 [] 1000 = 60 := by decide
  have hL0 := hL
  obtain ⟨a, cap, rfl, hc1, hc2, hcell⟩ := pairsR_open hL0
  unfold maxLen at hc2
  have H64 := Lib.hid h64; clear h64
  go_enter Try.func6, Try.ntmps6
  go_wp2_with fail
  have hb0 : Below w.heap.size w (w.alloc (.cells #[.int .i64 ah, .slice a L.length cap] 37)) := (Below.refl _ _).alloc (Nat.le_refl _) _
  refine (local_yes _ [] 60 1000 _ (reads_nil _ 2) f1 f2 (by rw [f3]; decide)).mono ?_; rintro e w1 ⟨rfl, hb1⟩
  rw [f3]
  have hb01 := hb0.trans (hb1.mono (by simp))
  have z0 := hb1.cell (p := ⟨w.heap.size, 0, none⟩) (by simp)
  have z1 := hb1.cell (p := ⟨w.heap.size, 1, none⟩) (by simp)
  simp at z0 z1
  have hs1 := hb1.size; simp at hs1
  have hlz : w.heap.size < w1.heap.size := by omega
  clear hb0 hb1 f1 f2 f3
  go_wp2_with fail
  obtain ⟨yah, hyah⟩ : ∃ yah, yah = wrap64 (ah + m) := ⟨_, rfl⟩
  rw [← hyah]
  have YAH := Lib.hid hyah; clear hyah
  obtain ⟨w2, hw2⟩ : ∃ w2, w2 = w1.alloc (.cells #[.int .i64 yah, .slice none 0 0] 37) := ⟨_, rfl⟩
  rw [← hw2]
  have hb02 : Below w.heap.size w w2 := by rw [hw2]; exact hb01.alloc hb01.size _
  have x0 : w2.cell? ⟨w.heap.size, 0, none⟩ = some (.int .i64 ah) := by rw [hw2, World.cell?_alloc_lt _ _ _ hlz]; exact z0
  have x1 : w2.cell? ⟨w.heap.size, 1, none⟩ = some (.slice a L.length cap) := by rw [hw2, World.cell?_alloc_lt _ _ _ hlz]; exact z1
  have y0 : w2.cell? ⟨w1.heap.size, 0, none⟩ = some (.int .i64 yah) := by rw [hw2]; simp
  have y1 : w2.cell? ⟨w1.heap.size, 1, none⟩ = some (.slice none 0 0) := by rw [hw2]; simp
  have yf : w2.frozen? ⟨w1.heap.size, 1, none⟩ = false := by rw [hw2]; simp
  have hly : w1.heap.size < w2.heap.size := by rw [hw2]; simp
  clear hw2 z0 z1 hb01 hs1
  go_loopg [10] L.length (StepI w w1.heap.size L ah yah m (.slice a L.length cap))
  case atStart => exact ⟨0, _, Nat.zero_le _, by omega, rfl, rfl, x0, x1, y0, y1, yf, hly, World.ownsRow_nil _ _ _ _, hb02⟩
  case round =>
    obtain ⟨k, u, hk, hk30, rfl, hg, x0', x1', y0', y1', yf', hly', hown, hb⟩ := hrel
    have G := Lib.hid hg; clear hg x0 x1 y0 y1 yf hly
    by_cases hc : k < L.length ∧ k < 30
    · obtain ⟨hlt, hlt30⟩ := hc
      obtain ⟨b, off, rfl, hcs⟩ := hcell (by omega)
      have c0 := cell_below hb (hcs k hlt).1
      have c1 := cell_below hb (hcs k hlt).2
      have hbl : b < w.heap.size := World.block_lt_of_cell? w _ (hcs k hlt).1
      obtain ⟨x, hx⟩ : ∃ x, x = L[k].1 := ⟨_, rfl⟩
      obtain ⟨y, hy⟩ : ∃ y, y = L[k].2 := ⟨_, rfl⟩
      rw [← hx] at c0; rw [← hy] at c1
      have hsn := more2_snoc m L k hlt
      rw [← hx, ← hy] at hsn
      obtain ⟨q, hq⟩ : ∃ q, q = IntKind.i64.wrap (y + m) := ⟨_, rfl⟩
      rw [← hq] at hsn
      have SN := Lib.hid hsn
      have hsum : IntKind.i64.wrap (y + m) = q := hq.symm
      have hnb : ∀ c, c < w1.heap.size + 1 → u.ownBlock ≠ some c := fun c hc he => by have := (hown.lt c he).1; omega
      have nY := hnb w1.heap.size (by omega)
      have nZ := hnb w.heap.size (by omega)
      have nB := hnb b (by omega)
      have i1 : (0 : Int) ≤ (k : Int) := Int.natCast_nonneg _
      have i2 : (k : Int) < (L.length : Int) := by omega
      have hlw : w.heap.size < wr.heap.size := by omega
      have hbr : b < wr.heap.size := by omega
      have hu := Lib.hid (hown.lt)
      clear hx hy hcs hcell hsn hq hnb hL H64
      have y1a : (wr.alloc (.cells #[.int .i64 x, .int .i64 q] 40)).drew.cell? ⟨w1.heap.size, 1, none⟩ = some u := (World.cell?_alloc_past _ _ _ hly').trans y1'
      have yfa : (wr.alloc (.cells #[.int .i64 x, .int .i64 q] 40)).drew.frozen? ⟨w1.heap.size, 1, none⟩ = false := far_frozen0 hly' yf'
      go_wp2_with fail
      refine wp_region_held_drew (S := (fun w' => w'.cell? ⟨w.heap.size, 1, none⟩ = some (.slice (some ⟨b, off, none⟩) L.length cap) ∧ w'.cell? ⟨b, off + k * 2, none⟩ = some (.int .i64 x) ∧ w'.cell? ⟨b, off + k * 2 + 1, none⟩ = some (.int .i64 y))) (by kernel_rfl) ?_ (fun hHeld => ?_)
      · (first | go_keep | (go_split_ands; refine ⟨?_, ?_, ?_⟩ <;> (first | assumption | (rw [World.cell?_setCell_other _ _ _ _ (by intro h; injection h with h1; omega)]; assumption) | (rw [hgrow.cell_far _ (by simp; omega) (Ne.symm nZ)]; assumption) | (rw [hgrow.cell_far _ (by simp; omega) (Ne.symm nB)]; assumption))))
      refine wpAnyH_take (i := 0) (v := ?_) rfl (by kernel_rfl) (by kernel_rfl) (by kernel_rfl) (fun _ _ _ h => h) (Or.inl ⟨by rfl, ?_⟩) (by assumption) ?_
      rotate_left
      · (intro w hSw; (try dsimp only at hSw); go_simp <;> with_reducible rfl)
      try simp only [Act.put, List.setIfInBounds_toArray, List.set_cons_zero, List.set_cons_succ]
      refine wpAnyH_take (i := 2) (v := ?_) rfl (by kernel_rfl) (by kernel_rfl) (by kernel_rfl) (fun _ _ _ h => h) (Or.inl ⟨by rfl, ?_⟩) (by assumption) ?_
      rotate_left
      · (intro w hSw; (try dsimp only at hSw); go_simp <;> with_reducible rfl)
      try simp only [Act.put, List.setIfInBounds_toArray, List.set_cons_zero, List.set_cons_succ]
      refine wpAnyH_take (i := 3) (v := ?_) rfl (by kernel_rfl) (by kernel_rfl) (by kernel_rfl) (fun _ _ _ h => h) (Or.inl ⟨by rfl, ?_⟩) (by assumption) ?_
      rotate_left
      · (intro w hSw; (try dsimp only at hSw); go_simp <;> with_reducible rfl)
      try simp only [Act.put, List.setIfInBounds_toArray, List.set_cons_zero, List.set_cons_succ]
      refine wpAnyH_take (i := 4) (v := ?_) rfl (by kernel_rfl) (by kernel_rfl) (by kernel_rfl) (fun _ _ _ h => h) (Or.inl ⟨by rfl, ?_⟩) (by assumption) ?_
      rotate_left
      · (intro w hSw; (try dsimp only at hSw); go_simp <;> with_reducible rfl)
      try simp only [Act.put, List.setIfInBounds_toArray, List.set_cons_zero, List.set_cons_succ]
      refine wpAnyH_take (i := 5) (v := ?_) rfl (by kernel_rfl) (by kernel_rfl) (by kernel_rfl) (fun _ _ _ h => h) (Or.inl ⟨by rfl, ?_⟩) (by assumption) ?_
      rotate_left
      · (intro w hSw; (try dsimp only at hSw); go_simp <;> with_reducible rfl)
      try simp only [Act.put, List.setIfInBounds_toArray, List.set_cons_zero, List.set_cons_succ]
      refine wpAnyH_take (i := 6) (v := ?_) rfl (by kernel_rfl) (by kernel_rfl) (by kernel_rfl) (fun _ _ _ h => h) (Or.inl ⟨by rfl, ?_⟩) (by assumption) ?_
      rotate_left
      · (intro w hSw; (try dsimp only at hSw); go_simp <;> with_reducible rfl)
      try simp only [Act.put, List.setIfInBounds_toArray, List.set_cons_zero, List.set_cons_succ]
      refine wpAnyH_take (i := 7) (v := ?_) rfl (by kernel_rfl) (by kernel_rfl) (by kernel_rfl) (fun _ _ _ h => h) (Or.inl ⟨by rfl, ?_⟩) (by assumption) ?_
      rotate_left
      · (intro w hSw; (try dsimp only at hSw); go_simp <;> with_reducible rfl)
      try simp only [Act.put, List.setIfInBounds_toArray, List.set_cons_zero, List.set_cons_succ]
      refine wpAnyH_take (i := 8) (v := ?_) rfl (by kernel_rfl) (by kernel_rfl) (by kernel_rfl) (fun _ _ _ h => h) (Or.inl ⟨by rfl, ?_⟩) (by assumption) ?_
      rotate_left
      · (intro w hSw; (try dsimp only at hSw); go_simp <;> with_reducible rfl)
      try simp only [Act.put, List.setIfInBounds_toArray, List.set_cons_zero, List.set_cons_succ]
      refine wpAnyH_take (i := 9) (v := ?_) rfl (by kernel_rfl) (by kernel_rfl) (by kernel_rfl) (fun _ _ _ h => h) (Or.inl ⟨by rfl, ?_⟩) (by assumption) ?_
      rotate_left
      · (intro w hSw; (try dsimp only at hSw); go_simp <;> with_reducible rfl)
      try simp only [Act.put, List.setIfInBounds_toArray, List.set_cons_zero, List.set_cons_succ]
      refine wpAnyH_take (i := 10) (v := ?_) rfl (by kernel_rfl) (by kernel_rfl) (by kernel_rfl) (fun _ _ _ h => h) (Or.inl ⟨by rfl, ?_⟩) (by assumption) ?_
      rotate_left
      · (intro w hSw; (try dsimp only at hSw); go_simp <;> with_reducible rfl)
      try simp only [Act.put, List.setIfInBounds_toArray, List.set_cons_zero, List.set_cons_succ]
      refine wpAnyH_take (i := 11) (v := ?_) rfl (by kernel_rfl) (by kernel_rfl) (by kernel_rfl) (fun _ _ _ h => h) (Or.inl ⟨by rfl, ?_⟩) (by assumption) ?_
      rotate_left
      · (intro w hSw; (try dsimp only at hSw); go_simp <;> with_reducible rfl)
      try simp only [Act.put, List.setIfInBounds_toArray, List.set_cons_zero, List.set_cons_succ]
      refine wpAnyH_take (i := 12) (v := ?_) rfl (by kernel_rfl) (by kernel_rfl) (by kernel_rfl) (fun _ _ _ h => h) (Or.inl ⟨by rfl, ?_⟩) (by assumption) ?_
      rotate_left
      · (intro w hSw; (try dsimp only at hSw); go_simp <;> with_reducible rfl)
      try simp only [Act.put, List.setIfInBounds_toArray, List.set_cons_zero, List.set_cons_succ]
      refine wpAnyH_take (i := 13) (v := ?_) rfl (by kernel_rfl) (by kernel_rfl) (by kernel_rfl) (fun _ _ _ h => h) (Or.inl ⟨by rfl, ?_⟩) (by assumption) ?_
      rotate_left
      · (intro w hSw; (try dsimp only at hSw); go_simp <;> with_reducible rfl)
      try simp only [Act.put, List.setIfInBounds_toArray, List.set_cons_zero, List.set_cons_succ]
      refine wpAnyH_take (i := 14) (v := ?_) rfl (by kernel_rfl) (by kernel_rfl) (by kernel_rfl) (fun _ _ _ h => h) (Or.inl ⟨by rfl, ?_⟩) (by assumption) ?_
      rotate_left
      · (intro w hSw; (try dsimp only at hSw); go_simp <;> with_reducible rfl)
      try simp only [Act.put, List.setIfInBounds_toArray, List.set_cons_zero, List.set_cons_succ]
      refine wpAnyH_take (i := 15) (v := ?_) rfl (by kernel_rfl) (by kernel_rfl) (by kernel_rfl) (fun _ _ _ h => h) (Or.inl ⟨by rfl, ?_⟩) (by assumption) ?_
      rotate_left
      · (intro w hSw; (try dsimp only at hSw); go_simp <;> with_reducible rfl)
      try simp only [Act.put, List.setIfInBounds_toArray, List.set_cons_zero, List.set_cons_succ]
      refine wpAnyH_take (i := 16) (v := ?_) rfl (by kernel_rfl) (by kernel_rfl) (by kernel_rfl) (fun _ _ _ h => h) (Or.inl ⟨by rfl, ?_⟩) (by assumption) ?_
      rotate_left
      · (intro w hSw; (try dsimp only at hSw); go_simp <;> with_reducible rfl)
      try simp only [Act.put, List.setIfInBounds_toArray, List.set_cons_zero, List.set_cons_succ]
      refine wpAnyH_ready (rs := [1, 17]) (by kernel_rfl) (by simp) ?_
      refine AllReadyH.cons rfl (fun K hK => ?_) ?_
      · go_simp
        refine hK.out _ _ ?_ (fun hHeld => ?_)
        · (first | go_keep | (go_split_ands; refine ⟨?_, ?_, ?_⟩ <;> (first | assumption | (rw [World.cell?_setCell_other _ _ _ _ (by intro h; injection h with h1; omega)]; assumption) | (rw [hgrow.cell_far _ (by simp; omega) (Ne.symm nZ)]; assumption) | (rw [hgrow.cell_far _ (by simp; omega) (Ne.symm nB)]; assumption))))
        clear hK K
        try simp only [Act.put, List.setIfInBounds_toArray, List.set_cons_zero, List.set_cons_succ]
        skip
        refine wpAnyH_ready (rs := [17]) (by kernel_rfl) (by simp) ?_
        refine AllReadyH.cons rfl (fun K hK => ?_) ?_
        · go_simp
          refine hK.out _ _ ?_ (fun hHeld => ?_)
          · (first | go_keep | (go_split_ands; refine ⟨?_, ?_, ?_⟩ <;> (first | assumption | (rw [World.cell?_setCell_other _ _ _ _ (by intro h; injection h with h1; omega)]; assumption) | (rw [hgrow.cell_far _ (by simp; omega) (Ne.symm nZ)]; assumption) | (rw [hgrow.cell_far _ (by simp; omega) (Ne.symm nB)]; assumption))))
          clear hK K
          try simp only [Act.put, List.setIfInBounds_toArray, List.set_cons_zero, List.set_cons_succ]
          skip
          refine wpAnyH_ready (rs := [18]) (by kernel_rfl) (by simp) ?_
          refine AllReadyH.cons rfl (fun K hK => ?_) ?_
          · (refine step_append_lies _ (by rfl) _ _ _ (by rfl) (w1.heap.size + 1) 40 i0 _ 2 16 Try.underlying35 hi hz0 hz1 hz2 rfl (by omega) u k (pairsV (more2 m (L.take k))) (by rfl) ((hown.alloc _).drew) ⟨wr.heap.size, 0, none⟩ 1 1 [.int .i64 x, .int .i64 q] (by rfl) (by rfl) (World.news_of_block (cs := #[.int .i64 x, .int .i64 q]) (t := 40) (fr := (0, 0)) (heap_alloc_new wr _)) (by simp [Value.oneCell']) (by omega) (by unfold maxLen; omega) (by omega) (by simp; omega) (wr.heap.size + 1) (by simp) ?_; intro gg cap1 w3 hown1 hgrow hat hlt1; have yy := far_cell (p := ⟨w1.heap.size, 1, none⟩) hgrow nY y1a; have yf2 := far_frozen (p := ⟨w1.heap.size, 1, none⟩) hgrow nY (by simp; omega) yfa)
            refine hK.out _ _ ?_ (fun hHeld => ?_)
            · (first | go_keep | (go_split_ands; refine ⟨?_, ?_, ?_⟩ <;> (first | assumption | (rw [World.cell?_setCell_other _ _ _ _ (by intro h; injection h with h1; omega)]; assumption) | (rw [hgrow.cell_far _ (by simp; omega) (Ne.symm nZ)]; assumption) | (rw [hgrow.cell_far _ (by simp; omega) (Ne.symm nB)]; assumption))))
            clear hK K
            try simp only [Act.put, List.setIfInBounds_toArray, List.set_cons_zero, List.set_cons_succ]
            skip
            refine wpAnyH_take (i := 19) (v := ?_) rfl (by kernel_rfl) (by kernel_rfl) (by kernel_rfl) (fun _ _ _ h => h) (Or.inl ⟨by rfl, ?_⟩) (by assumption) ?_
            rotate_left
            · (intro w hSw; (try dsimp only at hSw); go_simp <;> with_reducible rfl)
            try simp only [Act.put, List.setIfInBounds_toArray, List.set_cons_zero, List.set_cons_succ]
            refine wpAnyH_ready (rs := [20]) (by kernel_rfl) (by simp) ?_
            refine AllReadyH.cons rfl (fun K hK => ?_) ?_
            · go_simp
              refine hK.out _ _ ?_ (fun hHeld => ?_)
              · (first | go_keep | (go_split_ands; refine ⟨?_, ?_, ?_⟩ <;> (first | assumption | (rw [World.cell?_setCell_other _ _ _ _ (by intro h; injection h with h1; omega)]; assumption) | (rw [hgrow.cell_far _ (by simp; omega) (Ne.symm nZ)]; assumption) | (rw [hgrow.cell_far _ (by simp; omega) (Ne.symm nB)]; assumption))))
              clear hK K
              try simp only [Act.put, List.setIfInBounds_toArray, List.set_cons_zero, List.set_cons_succ]
              skip
              refine wpAnyH_done (by kernel_rfl) ?_ _
              have hge : w1.heap.size + 1 ≤ gg := hat.elim (fun h => (hu.out gg h).1) (fun h => by omega)
              have hs3 := hgrow.size
              simp at hs3
              have hO : w3.ownsRow (w1.heap.size + 1) 40 2 (.slice (some ⟨gg, 0, none⟩) (k + 1) cap1) (k + 1) (pairsV (more2 m (L.take (k + 1)))) := by rw [SN.out, pairsV_snoc]; exact hown1
              have hB3 : Below w.heap.size w w3 := ((hb.alloc (by omega) _).drew).grown hgrow (by simp; omega) (fun c hc => by have := (hu.out c hc).1; omega)
              have e0 := far_cell (p := ⟨w.heap.size, 0, none⟩) hgrow nZ ((World.cell?_alloc_past _ _ _ hlw).trans x0')
              have e1 := far_cell (p := ⟨w.heap.size, 1, none⟩) hgrow nZ ((World.cell?_alloc_past _ _ _ hlw).trans x1')
              have e2 := far_cell (p := ⟨w1.heap.size, 0, none⟩) hgrow nY ((World.cell?_alloc_past _ _ _ hly').trans y0')
              have R := Lib.hid (stepI_next (zs := .slice (some ⟨b, off, none⟩) L.length cap) hlt hlt30 hlz (by omega) e0 e1 e2 yy yf2 hge hO hB3)
              clear e0 e1 e2 hO hB3 hown1 hgrow hat hown hb hs3 yy yf2 x0' x1' y0' y1' yf' c0 c1 y1a yfa
              go_wp2
              go_roundg (L.length - (k + 1))
              case measure => rw [G.out]; omega
              case rel => exact R.out
            exact AllReadyH.nil
          exact AllReadyH.nil
        exact AllReadyH.nil
      refine AllReadyH.cons rfl (fun K hK => ?_) ?_
      · go_simp
        refine hK.out _ _ ?_ (fun hHeld => ?_)
        · (first | go_keep | (go_split_ands; refine ⟨?_, ?_, ?_⟩ <;> (first | assumption | (rw [World.cell?_setCell_other _ _ _ _ (by intro h; injection h with h1; omega)]; assumption) | (rw [hgrow.cell_far _ (by simp; omega) (Ne.symm nZ)]; assumption) | (rw [hgrow.cell_far _ (by simp; omega) (Ne.symm nB)]; assumption))))
        clear hK K
        try simp only [Act.put, List.setIfInBounds_toArray, List.set_cons_zero, List.set_cons_succ]
        skip
        refine wpAnyH_ready (rs := [1]) (by kernel_rfl) (by simp) ?_
        refine AllReadyH.cons rfl (fun K hK => ?_) ?_
        · go_simp
          refine hK.out _ _ ?_ (fun hHeld => ?_)
          · (first | go_keep | (go_split_ands; refine ⟨?_, ?_, ?_⟩ <;> (first | assumption | (rw [World.cell?_setCell_other _ _ _ _ (by intro h; injection h with h1; omega)]; assumption) | (rw [hgrow.cell_far _ (by simp; omega) (Ne.symm nZ)]; assumption) | (rw [hgrow.cell_far _ (by simp; omega) (Ne.symm nB)]; assumption))))
          clear hK K
          try simp only [Act.put, List.setIfInBounds_toArray, List.set_cons_zero, List.set_cons_succ]
          skip
          refine wpAnyH_ready (rs := [18]) (by kernel_rfl) (by simp) ?_
          refine AllReadyH.cons rfl (fun K hK => ?_) ?_
          · (refine step_append_lies _ (by rfl) _ _ _ (by rfl) (w1.heap.size + 1) 40 i0 _ 2 16 Try.underlying35 hi hz0 hz1 hz2 rfl (by omega) u k (pairsV (more2 m (L.take k))) (by rfl) ((hown.alloc _).drew) ⟨wr.heap.size, 0, none⟩ 1 1 [.int .i64 x, .int .i64 q] (by rfl) (by rfl) (World.news_of_block (cs := #[.int .i64 x, .int .i64 q]) (t := 40) (fr := (0, 0)) (heap_alloc_new wr _)) (by simp [Value.oneCell']) (by omega) (by unfold maxLen; omega) (by omega) (by simp; omega) (wr.heap.size + 1) (by simp) ?_; intro gg cap1 w3 hown1 hgrow hat hlt1; have yy := far_cell (p := ⟨w1.heap.size, 1, none⟩) hgrow nY y1a; have yf2 := far_frozen (p := ⟨w1.heap.size, 1, none⟩) hgrow nY (by simp; omega) yfa)
            refine hK.out _ _ ?_ (fun hHeld => ?_)
            · (first | go_keep | (go_split_ands; refine ⟨?_, ?_, ?_⟩ <;> (first | assumption | (rw [World.cell?_setCell_other _ _ _ _ (by intro h; injection h with h1; omega)]; assumption) | (rw [hgrow.cell_far _ (by simp; omega) (Ne.symm nZ)]; assumption) | (rw [hgrow.cell_far _ (by simp; omega) (Ne.symm nB)]; assumption))))
            clear hK K
            try simp only [Act.put, List.setIfInBounds_toArray, List.set_cons_zero, List.set_cons_succ]
            skip
            refine wpAnyH_take (i := 19) (v := ?_) rfl (by kernel_rfl) (by kernel_rfl) (by kernel_rfl) (fun _ _ _ h => h) (Or.inl ⟨by rfl, ?_⟩) (by assumption) ?_
            rotate_left
            · (intro w hSw; (try dsimp only at hSw); go_simp <;> with_reducible rfl)
            try simp only [Act.put, List.setIfInBounds_toArray, List.set_cons_zero, List.set_cons_succ]
            refine wpAnyH_ready (rs := [20]) (by kernel_rfl) (by simp) ?_
            refine AllReadyH.cons rfl (fun K hK => ?_) ?_
            · go_simp
              refine hK.out _ _ ?_ (fun hHeld => ?_)
              · (first | go_keep | (go_split_ands; refine ⟨?_, ?_, ?_⟩ <;> (first | assumption | (rw [World.cell?_setCell_other _ _ _ _ (by intro h; injection h with h1; omega)]; assumption) | (rw [hgrow.cell_far _ (by simp; omega) (Ne.symm nZ)]; assumption) | (rw [hgrow.cell_far _ (by simp; omega) (Ne.symm nB)]; assumption))))
              clear hK K
              try simp only [Act.put, List.setIfInBounds_toArray, List.set_cons_zero, List.set_cons_succ]
              skip
              refine wpAnyH_done (by kernel_rfl) ?_ _
              have hge : w1.heap.size + 1 ≤ gg := hat.elim (fun h => (hu.out gg h).1) (fun h => by omega)
              have hs3 := hgrow.size
              simp at hs3
              have hO : w3.ownsRow (w1.heap.size + 1) 40 2 (.slice (some ⟨gg, 0, none⟩) (k + 1) cap1) (k + 1) (pairsV (more2 m (L.take (k + 1)))) := by rw [SN.out, pairsV_snoc]; exact hown1
              have hB3 : Below w.heap.size w w3 := ((hb.alloc (by omega) _).drew).grown hgrow (by simp; omega) (fun c hc => by have := (hu.out c hc).1; omega)
              have e0 := far_cell (p := ⟨w.heap.size, 0, none⟩) hgrow nZ ((World.cell?_alloc_past _ _ _ hlw).trans x0')
              have e1 := far_cell (p := ⟨w.heap.size, 1, none⟩) hgrow nZ ((World.cell?_alloc_past _ _ _ hlw).trans x1')
              have e2 := far_cell (p := ⟨w1.heap.size, 0, none⟩) hgrow nY ((World.cell?_alloc_past _ _ _ hly').trans y0')
              have R := Lib.hid (stepI_next (zs := .slice (some ⟨b, off, none⟩) L.length cap) hlt hlt30 hlz (by omega) e0 e1 e2 yy yf2 hge hO hB3)
              clear e0 e1 e2 hO hB3 hown1 hgrow hat hown hb hs3 yy yf2 x0' x1' y0' y1' yf' c0 c1 y1a yfa
              go_wp2
              go_roundg (L.length - (k + 1))
              case measure => rw [G.out]; omega
              case rel => exact R.out
            exact AllReadyH.nil
          exact AllReadyH.nil
        exact AllReadyH.nil
      exact AllReadyH.nil
    · have hkk : k = L.length ∨ (k < L.length ∧ k = 30) := by omega
      have KK := Lib.hid (show k ≤ L.length ∧ (k = L.length ∨ k = 30) by omega)
      have P := Lib.hid (show PairsR wr u (more2 m (L.take k)) by
        unfold PairsR
        rw [more2_len, List.length_take, Nat.min_eq_left hk]
        exact ownsRow_reads hown)
      have PL := Lib.hid (hL.below hb)
      have BB := Lib.hid hb
      have OT := Lib.hid (fun r1 r2 ha hb => last_ok (ah := ah) (t := t) (r1 := r1) (r2 := r2) h1 h2 KK.out.1 KK.out.2 ha hb)
      have HC := Lib.hid hcell
      clear hc hL hb hown hcell
      rcases hkk with hk1 | ⟨hk1, hk2⟩
      · subst hk1
        go_wp2_with fail
        refine (local_any _ L ah t _ PL.out).mono ?_; rintro e w4 ⟨⟨r1, c1, rfl, hf1⟩, hb4⟩
        have F1 := Lib.hid hf1
        have q0 := cell_below hb4 y0'
        have q1 := cell_below hb4 y1'
        have B4 := Lib.hid (BB.out.trans (hb4.mono BB.out.size))
        have P4 := Lib.hid (P.out.below hb4)
        clear hf1 hb4
        go_wp2_with fail
        refine (local_any u (more2 m (L.take L.length)) yah t _ P4.out).mono ?_; rintro e w5 ⟨⟨r2, c2, rfl, hf2⟩, hb5⟩
        have F2 := Lib.hid hf2
        have B5 := Lib.hid (B4.out.trans (hb5.mono B4.out.size))
        clear hf2 hb5
        by_cases e1 : c1 = 0
        · by_cases e2 : c2 = 0
          · subst e1; subst e2
            rw [errV_0]
            have G2 := (F2.out rfl).2.2.2
            rw [YAH.out] at G2
            obtain ⟨rfl, hr1, hr2⟩ := OT.out r1 r2 (F1.out rfl) G2
            clear G2
            go_wp2
            go_ret
            exact ⟨by simp, B5.out⟩
          · have E2 := Lib.hid (show errV c2 = .iface 32 (.int .i64 c2) by rw [errV, if_neg e2])
            subst e1
            rw [errV_0, E2.out]
            clear e2
            go_wp2
            go_ret
            exact ⟨rfl, B5.out⟩
        · have E1 := Lib.hid (show errV c1 = .iface 32 (.int .i64 c1) by rw [errV, if_neg e1])
          clear e1
          rw [E1.out]
          go_wp2
          go_ret
          exact ⟨rfl, B5.out⟩
      · go_wp2_with fail
        refine (local_any _ L ah t _ PL.out).mono ?_; rintro e w4 ⟨⟨r1, c1, rfl, hf1⟩, hb4⟩
        have F1 := Lib.hid hf1
        have q0 := cell_below hb4 y0'
        have q1 := cell_below hb4 y1'
        have B4 := Lib.hid (BB.out.trans (hb4.mono BB.out.size))
        have P4 := Lib.hid (P.out.below hb4)
        clear hf1 hb4
        go_wp2_with fail
        refine (local_any u (more2 m (L.take k)) yah t _ P4.out).mono ?_; rintro e w5 ⟨⟨r2, c2, rfl, hf2⟩, hb5⟩
        have F2 := Lib.hid hf2
        have B5 := Lib.hid (B4.out.trans (hb5.mono B4.out.size))
        clear hf2 hb5
        by_cases e1 : c1 = 0
        · by_cases e2 : c2 = 0
          · subst e1; subst e2
            rw [errV_0]
            have G2 := (F2.out rfl).2.2.2
            rw [YAH.out] at G2
            obtain ⟨rfl, hr1, hr2⟩ := OT.out r1 r2 (F1.out rfl) G2
            clear G2
            go_wp2
            go_ret
            exact ⟨by simp, B5.out⟩
          · have E2 := Lib.hid (show errV c2 = .iface 32 (.int .i64 c2) by rw [errV, if_neg e2])
            subst e1
            rw [errV_0, E2.out]
            clear e2
            go_wp2
            go_ret
            exact ⟨rfl, B5.out⟩
        · have E1 := Lib.hid (show errV c1 = .iface 32 (.int .i64 c1) by rw [errV, if_neg e1])
          clear e1
          rw [E1.out]
          go_wp2
          go_ret
          exact ⟨rfl, B5.out⟩
theorem zoneSteps_out (v : Value) (L : List (Int × Int)) (ah t m : Int) (w : World) (hL : PairsR w v L) (h : m < -900 ∨ 900 < m) :
    Calls Try.prog 6 #[.agg #[.int .i64 ah, v], .int .i64 t, .int .i64 m] w fun e w' => e = .returned (.bool true) ∧ Below w.heap.size w w' := by
  have f1 : zfault 60 [] = 0 := by decide
  have f2 : timeB 1000 = true := by decide
  have f3 : zoneOf 60 [] 1000 = 60 := by decide
  obtain ⟨a, cap, rfl, _, _, _⟩ := hL
  have hb0 : Below w.heap.size w (w.alloc (.cells #[.int .i64 ah, .slice a L.length cap] 37)) := (Below.refl _ _).alloc (Nat.le_refl _) _
  rcases h with h | h
  all_goals
    go_enter Try.func6, Try.ntmps6
    go_wp2_with fail
    refine (local_yes _ [] 60 1000 _ (reads_nil _ 2) f1 f2 (by rw [f3]; decide)).mono ?_; rintro e w1 ⟨rfl, hb1⟩
    rw [f3]
    have hb01 := hb0.trans (hb1.mono (by simp))
    clear hb0 hb1 f1 f2 f3
    go_wp2
    go_ret
    exact ⟨rfl, hb01⟩

theorem zoneSteps_top (ah : Int) (v : Value) (L : List (Int × Int)) (t m : Int) (w : World) (h64 : (Lit.int .i64 ah).wf = true) (hL : PairsR w v L) (_ : (Lit.int .i64 t).wf = true) (_ : (Lit.int .i64 m).wf = true) :
    Calls Try.prog 6 #[.agg #[.int .i64 ah, v], .int .i64 t, .int .i64 m] w fun e w' => e = .returned (.bool true) ∧ Below w.heap.size w w' := by
  by_cases h1 : -900 ≤ m
  · by_cases h2 : m ≤ 900
    · exact zoneSteps_in v L ah t m w hL h1 h2 (bounds_i64 h64)
    · exact zoneSteps_out v L ah t m w hL (.inr (by omega))
  · exact zoneSteps_out v L ah t m w hL (.inl (by omega))

end Go.Proofs.Ytonoiaimknkpfaa
