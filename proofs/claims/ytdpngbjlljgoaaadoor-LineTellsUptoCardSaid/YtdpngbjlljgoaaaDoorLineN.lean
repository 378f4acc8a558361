/- Lines, plain laws: the reference's ways to unescape, to unfold and to part are the program's. No condition. -/
import Derived.Test.YtdpngbjlljgoaaaDoorLineP
namespace Go.Proofs.YtdpngbjlljgoaaaDoor

/-- the plain text of an escaped one, byte by byte; none: it is none. -/
def plainR : List UInt8 → Option (List UInt8)
  | [] => some []
  | [c] => if c = 10 ∨ c = 59 ∨ c = 44 ∨ c = 92 then none else some [c]
  | c :: d :: r =>
    if c = 10 ∨ c = 59 ∨ c = 44 then none
    else if c ≠ 92 then (plainR (d :: r)).map (c :: ·)
    else if d = 92 ∨ d = 59 ∨ d = 44 ∨ d = 110 then (plainR r).map ((if d = 110 then 10 else d) :: ·) else none

theorem esc_cons (c : UInt8) (r : List UInt8) : esc (c :: r) = escB c ++ esc r := by simp [esc]

theorem escB_same {c : UInt8} (h : ¬ (c = 92 ∨ c = 59 ∨ c = 44)) (h2 : c ≠ 10) : escB c = [c] := by rw [escB, if_neg h, if_neg h2]

theorem escB_esc {c : UInt8} (h : c = 92 ∨ c = 59 ∨ c = 44) : escB c = [92, c] := by rw [escB, if_pos h]

theorem escB_ten : escB 10 = [92, 110] := by decide

theorem plainR_bad {c : UInt8} (h : c = 10 ∨ c = 59 ∨ c = 44) (r : List UInt8) : plainR (c :: r) = none := by
  cases r with
  | nil => rw [plainR, if_pos (by rcases h with h | h | h <;> simp [h])]
  | cons d r => rw [plainR, if_pos h]

theorem plainR_plain {c : UInt8} (h : ¬ (c = 10 ∨ c = 59 ∨ c = 44)) (h2 : c ≠ 92) (r : List UInt8) : plainR (c :: r) = (plainR r).map (c :: ·) := by
  cases r with
  | nil =>
    show plainR [c] = some [c]
    rw [plainR, if_neg]
    rintro (h3 | h3 | h3 | h3)
    · exact h (.inl h3)
    · exact h (.inr (.inl h3))
    · exact h (.inr (.inr h3))
    · exact h2 h3
  | cons d r => rw [plainR, if_neg h, if_pos h2]

theorem plainR_end : plainR [92] = none := by decide

theorem plainR_pair {d : UInt8} (h : d = 92 ∨ d = 59 ∨ d = 44 ∨ d = 110) (r : List UInt8) : plainR (92 :: d :: r) = (plainR r).map ((if d = 110 then 10 else d) :: ·) := by
  rw [plainR, if_neg (by decide), if_neg (by decide), if_pos h]

theorem plainR_pair_no {d : UInt8} (h : ¬ (d = 92 ∨ d = 59 ∨ d = 44 ∨ d = 110)) (r : List UInt8) : plainR (92 :: d :: r) = none := by
  rw [plainR, if_neg (by decide), if_neg (by decide), if_neg h]

theorem plainR_eq (l : List UInt8) : plainR l = if esc (unesc l) = l then some (unesc l) else none := by
  induction h : l.length using Nat.strongRecOn generalizing l with
  | _ n ih =>
    cases l with
    | nil => rfl
    | cons c r =>
      by_cases hb : c = 10 ∨ c = 59 ∨ c = 44
      · rw [plainR_bad hb, if_neg]
        have h92 : c ≠ 92 := by rcases hb with rfl | rfl | rfl <;> decide
        rw [unesc_plain c r h92, esc_cons]
        intro e
        rcases hb with rfl | rfl | rfl
        · rw [escB_ten] at e; injection e with e _; exact absurd e (by decide)
        · rw [escB_esc (by decide)] at e; injection e with e _; exact absurd e (by decide)
        · rw [escB_esc (by decide)] at e; injection e with e _; exact absurd e (by decide)
      · by_cases h92 : c = 92
        · subst h92
          cases r with
          | nil => rw [plainR_end, if_neg]; decide
          | cons d r =>
            have hr := ih r.length (by rw [← h]; simp; omega) r rfl
            by_cases hd : d = 92 ∨ d = 59 ∨ d = 44 ∨ d = 110
            · rw [plainR_pair hd, hr, unesc_pair, esc_cons]
              have e : escB (if d = 110 then 10 else d) = [92, d] := by
                by_cases h110 : d = 110
                · rw [if_pos h110, h110]; decide
                · rw [if_neg h110]
                  rcases hd with h | h | h | h
                  · exact escB_esc (.inl h)
                  · exact escB_esc (.inr (.inl h))
                  · exact escB_esc (.inr (.inr h))
                  · exact absurd h h110
              obtain ⟨v, hv⟩ : ∃ v, v = if d = 110 then 10 else d := ⟨_, rfl⟩
              rw [← hv] at e ⊢
              rw [e]
              by_cases hq : esc (unesc r) = r
              · rw [if_pos hq, if_pos (by rw [hq]; rfl)]; rfl
              · rw [if_neg hq, if_neg (by intro h2; simp at h2; exact hq h2)]; rfl
            · rw [plainR_pair_no hd, if_neg]
              rw [unesc_pair, esc_cons, if_neg (fun h => hd (.inr (.inr (.inr h))))]
              intro e
              by_cases h10 : d = 10
              · subst h10
                rw [escB_ten] at e
                injection e with _ e
                injection e with e _
                exact absurd e (by decide)
              · rw [escB_same (fun h => hd (h.elim .inl fun h => h.elim (fun h => .inr (.inl h)) fun h => .inr (.inr (.inl h)))) h10] at e
                injection e with e _
                exact hd (.inl e)
        · have hr := ih r.length (by rw [← h]; simp) r rfl
          rw [plainR_plain hb h92, hr, unesc_plain c r h92, esc_cons, escB_same (fun h => h.elim h92 fun h => hb (.inr h)) (fun h => hb (.inl h))]
          by_cases hq : esc (unesc r) = r
          · rw [if_pos hq, if_pos (by rw [hq]; rfl)]; rfl
          · rw [if_neg hq, if_neg (by intro h2; simp at h2; exact hq h2)]; rfl

/-- is the i-th of pieces as it must be? -/
def pieceOk (L : List (List UInt8)) (i : Nat) : Prop :=
  ∃ p, L[i]? = some p ∧ p.length ≤ 40 ∧ (i + 1 ≠ L.length → p.length = 40) ∧ (i ≠ 0 → p.head? = some 32 ∧ 2 ≤ p.length)

theorem trimSp_32 {p : List UInt8} (h : p.head? = some 32) : trimSp p = p.drop 1 := by rw [trimSp, if_pos h]

theorem foldRest_ok (r : List (List UInt8)) (h : ∀ i, i < r.length → ∃ p, r[i]? = some p ∧ p.length ≤ 40 ∧ (i + 1 ≠ r.length → p.length = 40) ∧ p.head? = some 32 ∧ 2 ≤ p.length) : foldRest ((r.map trimSp).flatten) = r := by
  induction r with
  | nil => exact foldRest_nil
  | cons p r ih =>
    obtain ⟨q, h1, h2, h3, h4, h5⟩ := h 0 (by simp)
    obtain rfl : p = q := by simpa using h1
    have hr := ih (fun i hi => by
      obtain ⟨q, h1, h2, h3, h4, h5⟩ := h (i + 1) (by simp; omega)
      exact ⟨q, by simpa using h1, h2, fun hne => h3 (by simp; omega), h4, h5⟩)
    rw [List.map_cons, List.flatten_cons, trimSp_32 h4]
    have hp : p = 32 :: p.drop 1 := by
      cases p with
      | nil => simp at h4
      | cons c t => simp at h4; rw [h4]; rfl
    have hne : p.drop 1 ++ (r.map trimSp).flatten ≠ [] := by
      intro e
      have := congrArg List.length e
      simp at this
      omega
    rw [foldRest_cons hne]
    by_cases hlast : r = []
    · subst hlast
      have hlen : (p.drop 1).length ≤ 39 := by simp; omega
      simp only [List.map_nil, List.flatten_nil, List.append_nil]
      rw [List.take_of_length_le hlen, List.drop_of_length_le hlen, foldRest_nil, ← hp]
    · have hlen : (p.drop 1).length = 39 := by
        have := h3 (by simp; intro e; exact hlast e)
        simp; omega
      rw [List.take_left' hlen, List.drop_left' hlen, hr, ← hp]

theorem foldRest_pieces (t : List UInt8) : ∀ i, i < (foldRest t).length → ∃ p, (foldRest t)[i]? = some p ∧ p.length ≤ 40 ∧ (i + 1 ≠ (foldRest t).length → p.length = 40) ∧ p.head? = some 32 ∧ 2 ≤ p.length := by
  induction h : t.length using Nat.strongRecOn generalizing t with
  | _ n ih =>
    intro i hi
    by_cases hl : t = []
    · subst hl; rw [foldRest_nil] at hi; simp at hi
    · have hp := List.length_pos_iff.2 hl
      rw [foldRest_cons hl] at hi ⊢
      cases i with
      | zero =>
        refine ⟨32 :: t.take 39, rfl, by simp; omega, fun hne => ?_, rfl, by simp; omega⟩
        have : (foldRest (t.drop 39)).length ≠ 0 := by simp at hne; intro e; exact hne (List.length_eq_zero_iff.1 e)
        have h2 : t.drop 39 ≠ [] := fun e => this (by rw [e, foldRest_nil]; rfl)
        have := List.length_pos_iff.2 h2
        simp at this ⊢; omega
      | succ i =>
        obtain ⟨p, h1, h2, h3, h4, h5⟩ := ih (t.drop 39).length (by simp; omega) (t.drop 39) rfl i (by simpa using hi)
        exact ⟨p, by simpa using h1, h2, fun hne => h3 (by simp at hne; omega), h4, h5⟩

theorem unfold_ok (L : List (List UInt8)) : (foldL (unfoldL L) = L) ↔ (L ≠ [] ∧ ∀ i, i < L.length → pieceOk L i) := by
  constructor
  · intro h
    have hne : L ≠ [] := by rintro rfl; rw [foldL] at h; cases h
    refine ⟨hne, fun i hi => ?_⟩
    obtain ⟨t, ht⟩ : ∃ t, t = unfoldL L := ⟨_, rfl⟩
    rw [← ht] at h
    subst h
    rw [foldL] at hi ⊢
    cases i with
    | zero =>
      refine ⟨t.take 40, rfl, by simp; omega, fun hne => ?_, fun h => absurd rfl h⟩
      have : (foldRest (t.drop 40)).length ≠ 0 := by simp at hne; intro e; exact hne (List.length_eq_zero_iff.1 e)
      have h2 : t.drop 40 ≠ [] := fun e => this (by rw [e, foldRest_nil]; rfl)
      have := List.length_pos_iff.2 h2
      simp at this ⊢; omega
    | succ i =>
      obtain ⟨p, h1, h2, h3, h4, h5⟩ := foldRest_pieces (t.drop 40) i (by simpa using hi)
      exact ⟨p, by simpa using h1, h2, fun hne => h3 (by simp at hne; omega), fun _ => ⟨h4, h5⟩⟩
  · rintro ⟨hne, h⟩
    cases L with
    | nil => exact absurd rfl hne
    | cons s r =>
      obtain ⟨q, h1, h2, h3, _⟩ := h 0 (by simp)
      obtain rfl : s = q := by simpa using h1
      have hr := foldRest_ok r (fun i hi => by
        obtain ⟨p, h1, h2, h3, h4⟩ := h (i + 1) (by simp; omega)
        exact ⟨p, by simpa using h1, h2, fun hne => h3 (by simp; omega), (h4 (by omega)).1, (h4 (by omega)).2⟩)
      rw [foldL, unfoldL]
      by_cases hlast : r = []
      · subst hlast
        simp only [List.map_nil, List.flatten_nil, List.append_nil]
        rw [List.take_of_length_le h2, List.drop_of_length_le h2, foldRest_nil]
      · have hlen : s.length = 40 := h3 (by simp; intro e; exact hlast e)
        rw [List.take_left' hlen, List.drop_left' hlen, hr]

theorem unfold_bad {L : List (List UInt8)} {i : Nat} (hi : i < L.length) (h : ¬ pieceOk L i) : foldL (unfoldL L) ≠ L := fun e => h (((unfold_ok L).1 e).2 i hi)

/-- a pair: where the colon stands. -/
theorem pair_hit {l : List UInt8} {k : Nat} (hk : k < l.length) (hc : l[k] = 58) (hno : ∀ j (hj : j < l.length), j < k → l[j] ≠ 58 ∧ capOff l[j].toNat = false) :
    pairF l = if 1 ≤ k ∧ k ≤ 12 then (l.take k, l.drop (k + 1), 0) else ([], [], 2) := by
  have hidx : Lib.index l [58] = k := by
    refine Lib.index_first (by omega) ?_ ?_
    · rw [Lib.occAt, List.drop_eq_getElem_cons hk, hc]; simp [List.isPrefixOf]
    · intro j hj
      rw [Lib.occAt, List.drop_eq_getElem_cons (show j < l.length by omega)]
      have := (hno j (by omega) hj).1
      simp [List.isPrefixOf]
      exact fun e => this e.symm
  have hcut : Lib.cut l [58] = (l.take k, l.drop (k + 1), true) := by
    rw [Lib.cut, hidx, if_pos (by omega)]; simp
  unfold pairF
  rw [hcut]
  have hany : ((l.take k).any fun c => capOff c.toNat) = false := by
    rw [List.any_eq_false]
    intro x hx
    obtain ⟨j, hj, rfl⟩ := List.getElem_of_mem hx
    rw [List.getElem_take]
    have hjk : j < k := by simp at hj; omega
    rw [(hno j (by omega) hjk).2]; simp
  have hkey : keyB (l.take k) = (decide (1 ≤ k) && decide (k ≤ 12)) := by
    rw [keyB, hany]
    have hl : (l.take k).length = k := by simp; omega
    rw [hl]
    have he : (l.take k).isEmpty = decide (k = 0) := by
      rw [Bool.eq_iff_iff, List.isEmpty_iff, decide_eq_true_eq]
      constructor
      · intro e; rw [e] at hl; simpa using hl.symm
      · rintro rfl; simp
    rw [he]
    by_cases h0 : k = 0
    · simp [h0]
    · simp [h0]; omega
  by_cases h : 1 ≤ k ∧ k ≤ 12
  · rw [if_pos ⟨rfl, by simp only [hkey]; simp [h.1, h.2]⟩, if_pos h]
  · rw [if_neg (by rintro ⟨_, h2⟩; simp only [hkey] at h2; simp at h2; exact h h2), if_neg h]

theorem pair_off {l : List UInt8} {k : Nat} (hk : k < l.length) (hc : l[k] ≠ 58) (ho : capOff l[k].toNat = true) (hno : ∀ j (hj : j < l.length), j < k → l[j] ≠ 58) : pairF l = ([], [], 2) := by
  apply pairF_no
  unfold Lib.cut
  rcases Lib.index_spec l [58] with ⟨h1, _⟩ | ⟨i, h1, h2, h3, _⟩
  · left; rw [h1]; simp
  · right
    rw [h1, if_pos (by omega)]
    simp only [Int.toNat_natCast]
    have hik : k < i := by
      rcases Nat.lt_or_ge k i with h | h
      · exact h
      · exfalso
        have hil : i < l.length := by omega
        rw [Lib.occAt, List.drop_eq_getElem_cons hil] at h3
        simp [List.isPrefixOf] at h3
        rcases Nat.lt_or_ge i k with h' | h'
        · exact hno i hil h' h3.symm
        · obtain rfl : i = k := by omega
          exact hc h3.symm
    rw [keyB]
    have : ((l.take i).any fun c => capOff c.toNat) = true := by
      rw [List.any_eq_true]
      exact ⟨l[k], List.mem_take_iff_getElem.2 ⟨k, by omega, rfl⟩, ho⟩
    rw [this]; rfl

theorem pair_end {l : List UInt8} (hno : ∀ j (hj : j < l.length), l[j] ≠ 58) : pairF l = ([], [], 2) := by
  apply pairF_no
  left
  unfold Lib.cut
  rcases Lib.index_spec l [58] with ⟨h1, _⟩ | ⟨i, h1, h2, h3, _⟩
  · rw [h1]; simp
  · exfalso
    rcases Nat.lt_or_ge i l.length with h | h
    · rw [Lib.occAt, List.drop_eq_getElem_cons h] at h3
      simp [List.isPrefixOf] at h3
      exact hno i h h3.symm
    · rw [Lib.occAt, List.drop_of_length_le h] at h3
      simp [List.isPrefixOf] at h3

end Go.Proofs.YtdpngbjlljgoaaaDoor
