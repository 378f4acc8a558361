/- Texts joined into one (a claim has at most 60 files): Contracts of the reference's zones: chimeref1.Time, Ahead, Zone, Twice; Contracts of the references Alarm, Name, times, Stretch. -/
import Derived.Test.YtgelojhpanbnaaaGreatDoorQ09
import Derived.Test.YtgelojhpanbnaaaGreatDoorQ04
import Derived.Test.YtgelojhpanbnaaaGreatDoorQ10
import Derived.Test.YtgelojhpanbnaaaGreatDoorQ14
import Derived.Test.YtgelojhpanbnaaaGreatDoorQ05
namespace Go.Proofs.YtgelojhpanbnaaaGreatDoor
open Go.RowKit

theorem rtime_any (t : Int) (w : World) :
    Calls Tryz.prog 44 #[.int .i64 t] w fun e w' => e = .returned (.bool (timeB t)) ∧ w = w' := by
  by_cases h : 1 ≤ t
  · by_cases h2 : t < 157785120
    · go_enter Tryz.func44, Tryz.ntmps44
      go_wp2
      go_ret
      exact ⟨ret_bool (by rw [timeB_mk h h2]), rfl⟩
    · go_enter Tryz.func44, Tryz.ntmps44
      go_wp2
      go_ret
      exact ⟨ret_bool (by rw [timeB_mk_no (by omega)]), rfl⟩
  · go_enter Tryz.func44, Tryz.ntmps44
    go_wp2
    go_ret
    exact ⟨ret_bool (by rw [timeB_mk_no (by omega)]), rfl⟩

set_option maxHeartbeats 1000000 in
theorem rzahead_any (v : Value) (L : List (Int × Int)) (ah t : Int) (w : World) (hL : PairsR w v L) :
    Calls Tryz.prog 261 #[.agg #[.int .i64 ah, v], .int .i64 t] w fun e w' => e = .returned (.int .i64 (zoneOf ah L t)) ∧ Below w.heap.size w w' := by
  obtain ⟨a, cap, rfl, hc1, hc2, hcell⟩ := pairsR_open hL
  unfold maxLen at hc2
  have HC := Lib.hid hcell; clear hcell hL
  go_enter Tryz.func261, Tryz.ntmps261
  go_wp2
  obtain ⟨w0, hw0⟩ : ∃ w0, w0 = w.alloc (.cells #[.int .i64 ah, .slice a L.length cap] 33) := ⟨_, rfl⟩
  rw [← hw0]
  have hb0 : Below w.heap.size w w0 := by rw [hw0]; exact (Below.refl _ _).alloc (Nat.le_refl _) _
  have z1 : w0.cell? ⟨w.heap.size, 1, none⟩ = some (.slice a L.length cap) := by rw [hw0]; simp
  clear hw0
  go_loopg [5, 6] L.length (fun g nv i wr => ∃ k : Nat, k ≤ L.length ∧ i = .int .i64 k ∧ nv = .int .i64 (zoneOf ah (L.take k) t) ∧ g = L.length - k ∧ wr = w0)
  case atStart => exact ⟨0, Nat.zero_le _, rfl, rfl, rfl, rfl⟩
  case round =>
    obtain ⟨k, hk, rfl, rfl, hg, rfl⟩ := hrel
    have G := Lib.hid hg; clear hg
    by_cases hlt : k < L.length
    · obtain ⟨b, off, rfl, hcs⟩ := HC.out (by omega)
      have c0 := cell_below hb0 (hcs k hlt).1
      have c1 := cell_below hb0 (hcs k hlt).2
      have Z := Lib.hid (zoneOf_snoc ah L t k hlt)
      clear hcs
      obtain ⟨x, hx⟩ : ∃ x, x = L[k].1 := ⟨_, rfl⟩
      obtain ⟨y, hy⟩ : ∃ y, y = L[k].2 := ⟨_, rfl⟩
      rw [← hx] at c0; rw [← hy] at c1
      have X := Lib.hid hx; have Y := Lib.hid hy; clear hx hy
      by_cases ht : x ≤ t
      · go_wp2
        go_roundg (L.length - (k + 1))
        case measure => rw [G.out]; omega
        case rel => exact ⟨k + 1, by omega, by go_num, by rw [Z.out, if_pos (by rw [← X.out]; exact ht), ← Y.out], rfl, rfl⟩
      · go_wp2
        go_roundg (L.length - (k + 1))
        case measure => rw [G.out]; omega
        case rel => exact ⟨k + 1, by omega, by go_num, by rw [Z.out, if_neg (by rw [← X.out]; omega)], rfl, rfl⟩
    · obtain rfl : k = L.length := by omega
      have e := Lib.hid (show zoneOf ah (L.take L.length) t = zoneOf ah L t by rw [List.take_length])
      go_wp2
      go_ret
      exact ⟨by rw [← e.out]; rfl, hb0⟩

set_option maxHeartbeats 4000000 in
theorem rzone_any (v : Value) (L : List (Int × Int)) (ah : Int) (w : World) (hL : PairsR w v L) :
    Calls Tryz.prog 36 #[.agg #[.int .i64 ah, v]] w fun e w' => e = .returned (.int .i64 (zfault ah L)) ∧ Below w.heap.size w w' := by
  obtain ⟨a, cap, rfl, hc1, hc2, hcell⟩ := pairsR_open hL
  unfold maxLen at hc2
  by_cases hl : 20 < L.length
  · have e := Lib.hid (show zfault ah L = 4 by rw [zfault, if_pos hl])
    go_enter Tryz.func36, Tryz.ntmps36
    go_wp2
    go_ret
    exact ⟨by rw [e.out]; rfl, (Below.refl _ _).alloc (Nat.le_refl _) _⟩
  by_cases hm : mayB ah = true
  · have e := Lib.hid (show zfault ah L = shF none L by rw [zfault, if_neg hl, if_pos hm])
    have hcap : L.length ≤ 20 := by omega
    obtain ⟨m1, m2⟩ := may_bd hm
    clear hm
    go_enter Tryz.func36, Tryz.ntmps36
    go_wp2
    obtain ⟨w0, hw0⟩ : ∃ w0, w0 = w.alloc (.cells #[.int .i64 ah, .slice a L.length cap] 33) := ⟨_, rfl⟩
    rw [← hw0]
    have hb0 : Below w.heap.size w w0 := by rw [hw0]; exact (Below.refl _ _).alloc (Nat.le_refl _) _
    have z1 : w0.cell? ⟨w.heap.size, 1, none⟩ = some (.slice a L.length cap) := by rw [hw0]; simp
    have hl0 : w.heap.size < w0.heap.size := by rw [hw0]; simp
    have hcell0 : 0 < L.length → ∃ b off, a = some ⟨b, off, none⟩ ∧ ∀ i (hi : i < L.length), w0.cell? ⟨b, off + i * 2, none⟩ = some (.int .i64 L[i].1) ∧ w0.cell? ⟨b, off + i * 2 + 1, none⟩ = some (.int .i64 L[i].2) := by
      intro h
      obtain ⟨b, off, h1, h2⟩ := hcell h
      exact ⟨b, off, h1, fun i hi => ⟨cell_below hb0 (h2 i hi).1, cell_below hb0 (h2 i hi).2⟩⟩
    clear hw0 hcell hL
    go_loopg [3] L.length (fun g i wr => ∃ k : Nat, k ≤ L.length ∧ i = .int .i64 k ∧ Hid (shF (prevAt L k) (L.drop k) = shF none L) ∧ (∀ h : 0 < k, ∀ h2 : k - 1 < L.length, timeB L[k - 1].1 = true) ∧ g = L.length - k ∧ Below w0.heap.size w0 wr)
    case atStart => exact ⟨0, Nat.zero_le _, rfl, Lib.hid (by simp [prevAt]), fun h => absurd h (by omega), rfl, Below.refl _ _⟩
    case round =>
      obtain ⟨k, hk, rfl, hS, hpv, hg, hb⟩ := hrel
      have G := Lib.hid hg; clear hg
      have zz := cell_below hb z1
      by_cases hlt : k < L.length
      · obtain ⟨b, off, rfl, hcs⟩ := hcell0 (by omega)
        have c0 := cell_below hb (hcs k hlt).1
        have c1 := cell_below hb (hcs k hlt).2
        have hbs := hb.size
        have hlr : w.heap.size < wr.heap.size := by omega
        clear hcell0
        obtain ⟨x, hx⟩ : ∃ x, x = L[k].1 := ⟨_, rfl⟩
        obtain ⟨y, hy⟩ : ∃ y, y = L[k].2 := ⟨_, rfl⟩
        rw [← hx] at c0; rw [← hy] at c1
        have X := Lib.hid hx; have Y := Lib.hid hy; clear hx hy
        have HC := Lib.hid hcs; have HP := Lib.hid hpv; clear hcs hpv z1 hl
        have hbw : Below w.heap.size w wr := hb0.trans (hb.mono hb0.size)
        have i1 : (0 : Int) ≤ (k : Int) := Int.natCast_nonneg _
        have i2 : (k : Int) < (L.length : Int) := by omega
        by_cases t1 : timeB x = true
        · obtain ⟨t2, t3⟩ := timeB_yes t1
          by_cases t4 : mayB y = true
          · obtain ⟨y1, y2⟩ := may_bd t4
            by_cases k0 : 0 < k
            · have p1 := HP.out k0 (by omega)
              have hkm : k - 1 < L.length := by omega
              have d0 := cell_below hb (HC.out (k - 1) hkm).1
              obtain ⟨q, hq⟩ : ∃ q, q = L[k - 1].1 := ⟨_, rfl⟩
              rw [← hq] at d0 p1
              obtain ⟨p2, p3⟩ := timeB_yes p1
              have hpa : prevAt L k = some q := by rw [prevAt, if_neg (by omega), List.getElem?_eq_getElem hkm, hq]; rfl
              have PA := Lib.hid hpa
              have hd : decide ((0 : Int) < (k : Int)) = true := by simpa using k0
              have hbl : b < wr.heap.size := World.block_lt_of_cell? wr _ d0
              have T1 := Lib.hid t1; have T4 := Lib.hid t4
              clear hq hpa p1 t1 t4
              by_cases hdiff : x - q < 1440
              · have S2 := Lib.hid (shF_clash (q := q) hlt (by rw [← X.out]; exact T1.out) (by rw [← Y.out]; exact T4.out) (by rw [← X.out]; exact hdiff))
                go_wp2_with (go_at_call 44; refine ((show _ from T1.out ▸ rtime_any x _)).mono ?_; rintro e w' ⟨rfl, rfl⟩)
                have s1 : IntKind.i64.wrap ((k : Int) - 1) = (k : Int) - 1 := IntWalk.i64_in _ (by omega)
                have s2 : (0 : Int) ≤ (k : Int) - 1 := by omega
                have s3 : (1 : Int) ≤ (k : Int) := by omega
                have s4 : ((k : Int) - 1).toNat = k - 1 := by omega
                have s5 : (k : Int) - 1 < (L.length : Int) := by omega
                have s6 : IntKind.i64.wrap (x - q) = x - q := IntWalk.i64_in _ (by omega)
                go_quiet (fail)
                clear s1 s2 s3 s4 s5 s6
                go_wp2
                go_ret
                exact ⟨by rw [e.out, ← hS.out, PA.out, S2.out]; rfl, below_drewN (hbw.alloc (by omega) _) _⟩
              · have S2 := Lib.hid (shF_next (q := q) hlt (by rw [← X.out]; exact T1.out) (by rw [← Y.out]; exact T4.out) (by rw [← X.out]; omega))
                go_wp2_with (go_at_call 44; refine ((show _ from T1.out ▸ rtime_any x _)).mono ?_; rintro e w' ⟨rfl, rfl⟩)
                have s1 : IntKind.i64.wrap ((k : Int) - 1) = (k : Int) - 1 := IntWalk.i64_in _ (by omega)
                have s2 : (0 : Int) ≤ (k : Int) - 1 := by omega
                have s3 : (1 : Int) ≤ (k : Int) := by omega
                have s4 : ((k : Int) - 1).toNat = k - 1 := by omega
                have s5 : (k : Int) - 1 < (L.length : Int) := by omega
                have s6 : IntKind.i64.wrap (x - q) = x - q := IntWalk.i64_in _ (by omega)
                go_quiet (fail)
                clear s1 s2 s3 s4 s5 s6
                go_wp2
                go_roundg (L.length - (k + 1))
                case measure => rw [G.out]; omega
                case rel => exact ⟨k + 1, by omega, by go_num, Lib.hid (by rw [← S2.out, ← PA.out]; exact hS.out), fun _ _ => by show timeB L[k].1 = true; rw [← X.out]; exact T1.out, rfl, below_drewN (hb.alloc hbs _) _⟩
            · have T1 := Lib.hid t1; have T4 := Lib.hid t4
              have S2 := Lib.hid (shF_first hlt (by rw [← X.out]; exact t1) (by rw [← Y.out]; exact t4))
              have hd : decide ((0 : Int) < (k : Int)) = false := by simp; omega
              clear t1 t4
              go_wp2_with (go_at_call 44; refine ((show _ from T1.out ▸ rtime_any x _)).mono ?_; rintro e w' ⟨rfl, rfl⟩)
              go_quiet (fail)
              go_wp2
              go_roundg (L.length - (k + 1))
              case measure => rw [G.out]; omega
              case rel => exact ⟨k + 1, by omega, by go_num, Lib.hid (by rw [← S2.out]; have := hS.out; rw [prevAt, if_pos (by omega)] at this; exact this), fun _ _ => by show timeB L[k].1 = true; rw [← X.out]; exact T1.out, rfl, below_drewN (hb.alloc hbs _) _⟩
          · have t4' : mayB y = false := by simpa using t4
            have S2 := Lib.hid (shF_bad (p := prevAt L k) hlt (.inr (by rw [← Y.out]; exact t4')))
            have hy : y < -900 ∨ 900 < y := by simp [mayB] at t4'; omega
            have T1 := Lib.hid t1
            clear t4 t4' t1
            rcases hy with hy | hy
            all_goals
              go_wp2_with (go_at_call 44; refine ((show _ from T1.out ▸ rtime_any x _)).mono ?_; rintro e w' ⟨rfl, rfl⟩)
              go_ret
              exact ⟨by rw [e.out, ← hS.out, S2.out]; rfl, hbw.alloc (by omega) _⟩
        · have t1' : timeB x = false := by simpa using t1
          have S2 := Lib.hid (shF_bad (p := prevAt L k) hlt (.inl (by rw [← X.out]; exact t1')))
          have T1 := Lib.hid t1'
          clear t1 t1'
          go_wp2_with (go_at_call 44; refine ((show _ from T1.out ▸ rtime_any x _)).mono ?_; rintro e w' ⟨rfl, rfl⟩)
          go_ret
          exact ⟨by rw [e.out, ← hS.out, S2.out]; rfl, hbw.alloc (by omega) _⟩
      · obtain rfl : k = L.length := by omega
        have S2 := Lib.hid (show shF (prevAt L L.length) (L.drop L.length) = 0 by rw [List.drop_length, shF])
        have hbw : Below w.heap.size w wr := hb0.trans (hb.mono hb0.size)
        clear hpv hcell0
        go_wp2
        go_ret
        exact ⟨by rw [e.out, ← hS.out, S2.out]; rfl, hbw⟩
  · have hm' : mayB ah = false := by simpa using hm
    have e := Lib.hid (show zfault ah L = 1 by rw [zfault, if_neg hl, if_neg hm])
    have hy : ah < -900 ∨ 900 < ah := by simp [mayB] at hm'; omega
    clear hm hm'
    rcases hy with hy | hy
    all_goals
      go_enter Tryz.func36, Tryz.ntmps36
      go_wp2
      go_ret
      exact ⟨by rw [e.out]; rfl, (Below.refl _ _).alloc (Nat.le_refl _) _⟩

def TwI (wo : World) (L : List (Int × Int)) (ah t : Int) (g : Nat) (ov i : Value) (wr : World) : Prop :=
  ∃ k : Nat, k ≤ 1801 ∧ i = .int .i64 (900 - (k : Int)) ∧ g = 1801 - k ∧ wr.ownsRow wo.heap.size 3 1 ov (hits ah L t (tries ah L k)).length ((hits ah L t (tries ah L k)).map (Value.int .i64)) ∧ Below wo.heap.size wo wr

theorem tries_len (ah : Int) (L : List (Int × Int)) (k : Nat) : (tries ah L k).length ≤ k := by
  rw [tries]; exact Nat.le_trans (List.length_filter_le _ _) (by simp)

theorem contains_inB (L : List Int) (n : Int) : L.contains n = inB L n := by
  rw [inB, Bool.eq_iff_iff]; simp

theorem twI_no {wo wr : World} {L : List (Int × Int)} {ah t : Int} {ov : Value} {k : Nat} (hk : k < 1801) (hn : inB (aheads ah L) (900 - (k : Int)) = false ∨ hitB ah L t (900 - (k : Int)) = false)
    (ho : wr.ownsRow wo.heap.size 3 1 ov (hits ah L t (tries ah L k)).length ((hits ah L t (tries ah L k)).map (Value.int .i64))) (hb : Below wo.heap.size wo wr) : TwI wo L ah t (1801 - (k + 1)) ov (.int .i64 (900 - ((k + 1 : Nat) : Int))) wr := by
  refine ⟨k + 1, by omega, rfl, rfl, ?_, hb⟩
  have e : hits ah L t (tries ah L (k + 1)) = hits ah L t (tries ah L k) := by
    rw [tries_succ, contains_inB]
    rcases hn with hn | hn
    · rw [if_neg (by rw [hn]; simp), List.append_nil]
    · split
      · rw [hits_snoc, if_neg (by rw [hn]; simp), List.append_nil]
      · rw [List.append_nil]
  rw [e]
  exact ho

theorem twI_yes {wo wr : World} {L : List (Int × Int)} {ah t : Int} {ov : Value} {k m : Nat} (hk : k < 1801) (h1 : inB (aheads ah L) (900 - (k : Int)) = true) (h2 : hitB ah L t (900 - (k : Int)) = true) (hm : m = (hits ah L t (tries ah L k)).length + 1)
    (ho : wr.ownsRow wo.heap.size 3 1 ov m ((hits ah L t (tries ah L k)).map (Value.int .i64) ++ [.int .i64 (t - (900 - (k : Int)))])) (hb : Below wo.heap.size wo wr) : TwI wo L ah t (1801 - (k + 1)) ov (.int .i64 (900 - ((k + 1 : Nat) : Int))) wr := by
  refine ⟨k + 1, by omega, rfl, rfl, ?_, hb⟩
  have e : hits ah L t (tries ah L (k + 1)) = hits ah L t (tries ah L k) ++ [t - (900 - (k : Int))] := by
    rw [tries_succ, contains_inB, if_pos h1, hits_snoc, if_pos h2]
  rw [e, List.map_append, List.length_append]
  subst hm
  exact ho

set_option maxRecDepth 100000 in
set_option maxHeartbeats 4000000 in
theorem rtwice_any (v : Value) (L : List (Int × Int)) (ah t : Int) (w : World) (hL : PairsR w v L) (h : zfault ah L = 0) (h0 : 0 ≤ t) (h1 : t < 157785120) :
    Calls Tryz.prog 220 #[.agg #[.int .i64 ah, v], .int .i64 t] w fun e w' => ∃ u, e = .returned u ∧ w'.ownsRow w.heap.size 3 1 u (zoneAll ah L t).length ((zoneAll ah L t).map (Value.int .i64)) ∧ Below w.heap.size w w' := by
  obtain ⟨i0, hi, hz0, hz1, hz2⟩ := info_parts intInfo
  have hlen := (zfault_0 h).1
  have Z := Lib.hid h; clear h
  have HL := Lib.hid hL
  obtain ⟨a, cap, rfl, hc1, hc2, hcell⟩ := pairsR_open hL
  unfold maxLen at hc2
  have HC := Lib.hid hcell; clear hcell hL
  go_enter Tryz.func220, Tryz.ntmps220
  go_wp2_with (at_builtin; refine wpList_append_lies _ rfl _ _ 22 rfl (w.heap.size + 1) 3 i0 _ 1 8 Tryz.underlying22 hi hz0 hz1 hz2 rfl (by decide) _ _ _ rfl (World.ownsRow_nil _ _ _ _) ⟨w.heap.size + 1, 0, none⟩ 1 1 [.int .i64 ah] rfl rfl ?c1 ?c2 (by decide) (by unfold maxLen; omega) (by omega) (by simp) _ rfl ?_)
  case c1 =>
    have hh := heap_alloc_new (w.alloc (.cells #[.int .i64 ah, .slice a L.length cap] 33)) (.cells #[.int .i64 ah] 3)
    rw [World.size_alloc] at hh
    exact World.news_of_block (cs := #[.int .i64 ah]) hh
  case c2 => intro u hu; simp at hu; subst hu; rfl
  intro g1 cap1 w1 hown1 hgrow1 hat1 hlt1
  have hw0 : Below w.heap.size w (w.alloc (.cells #[.int .i64 ah, .slice a L.length cap] 33)) := (Below.refl _ _).alloc (Nat.le_refl _) _
  have R0 := Lib.hid (show AllI w L ah (.slice a L.length cap) L.length (.slice (some ⟨g1, 0, none⟩) 1 cap1) (.int .i64 ((0 : Nat) : Int)) w1 from
    ⟨0, Nat.zero_le _, rfl, rfl, by simpa [aheads] using hown1, far_cell (p := ⟨w.heap.size, 0, none⟩) hgrow1 (by simp [Value.ownBlock]) (by simp), far_cell (p := ⟨w.heap.size, 1, none⟩) hgrow1 (by simp [Value.ownBlock]) (by simp), by have := hgrow1.size; simp at this; omega, (hw0.alloc (by simp) _).grown hgrow1 (by simp; omega) (fun c hc => by cases hc)⟩)
  clear hown1 hgrow1 hat1 hlt1 hw0
  go_wp2
  go_loopg [5, 6] L.length (AllI w L ah (.slice a L.length cap))
  case atStart => exact R0.out
  case round =>
    obtain ⟨k, hk, rfl, hg, hown, z0, z1, hlw, hb⟩ := hrel
    have G := Lib.hid hg; clear hg
    by_cases hlt : k < L.length
    · obtain ⟨b, off, rfl, hcs⟩ := HC.out (by omega)
      have c0 := cell_below hb (hcs k hlt).1
      have c1 := cell_below hb (hcs k hlt).2
      have hbl : b < w.heap.size := World.block_lt_of_cell? w _ (hcs k hlt).1
      have hbs := hb.size
      clear hcs
      have AT := Lib.hid (aheads_take ah L k hlt)
      obtain ⟨x, hx⟩ : ∃ x, x = L[k].1 := ⟨_, rfl⟩
      obtain ⟨y, hy⟩ : ∃ y, y = L[k].2 := ⟨_, rfl⟩
      rw [← hx] at c0; rw [← hy] at c1
      have X := Lib.hid hx; have Y := Lib.hid hy; clear hx hy
      have hnb := ownBlock_ge hown
      have nZ : u5.ownBlock ≠ some w.heap.size := fun e => by have := hnb _ e; omega
      have NB := Lib.hid hnb; clear hnb
      go_wp2_with (at_builtin; refine wpList_append_lies _ rfl _ _ 22 rfl (w.heap.size + 1) 3 i0 _ 1 8 Tryz.underlying22 hi hz0 hz1 hz2 rfl (by decide) _ _ _ rfl (hown.alloc _) ⟨wr.heap.size, 0, none⟩ 1 1 [.int .i64 y] rfl rfl ?d1 ?d2 (by decide) (by unfold maxLen; omega) (by omega) (by simp; omega) _ rfl ?_)
      case d1 => exact cell_one_new _ _ _
      case d2 => intro u hu; simp at hu; subst hu; rfl
      intro g cap1 w1 hown1 hgrow1 hat1 hlt1
      have hO : w1.ownsRow (w.heap.size + 1) 3 1 (.slice (some ⟨g, 0, none⟩) (k + 1 + 1) cap1) (k + 1 + 1) ((aheads ah (L.take (k + 1))).map (Value.int .i64)) := by
        rw [AT.out, List.map_append, ← Y.out]; exact hown1
      have hB1 : Below w.heap.size w w1 := (hb.alloc hbs _).grown hgrow1 (by simp; omega) (fun c hc => by have := NB.out c hc; omega)
      have y0 := far_cell (p := ⟨w.heap.size, 0, none⟩) hgrow1 nZ ((World.cell?_alloc_past _ _ _ hlw).trans z0)
      have y1 := far_cell (p := ⟨w.heap.size, 1, none⟩) hgrow1 nZ ((World.cell?_alloc_past _ _ _ hlw).trans z1)
      have hl1 : w.heap.size < w1.heap.size := by have := hgrow1.size; simp at this; omega
      have R := Lib.hid (show AllI w L ah (.slice (some ⟨b, off, none⟩) L.length cap) (L.length - (k + 1)) (.slice (some ⟨g, 0, none⟩) (k + 1 + 1) cap1) (.int .i64 ((k + 1 : Nat) : Int)) w1 from ⟨k + 1, by omega, rfl, rfl, hO, y0, y1, hl1, hB1⟩)
      clear hO hB1 y0 y1 hl1 hown1 hgrow1 hat1 hlt1 hown hb z0 z1
      go_wp2
      go_roundg (L.length - (k + 1))
      case measure => rw [G.out]; omega
      case rel => exact R.out
    · obtain rfl : k = L.length := by omega
      rw [List.take_length] at hown
      have hIn : IntsR wr u5 (aheads ah L) := by
        have h2 : (aheads ah L).length = L.length + 1 := by simp [aheads]
        refine intsR_of_owns (base := w.heap.size + 1) (e := 3) ?_
        rw [h2]; exact hown
      have hbs := hb.size
      obtain ⟨wo, rfl⟩ : ∃ wo : World, wo = wr := ⟨_, rfl⟩
      have HI := Lib.hid hIn; have HB := Lib.hid hb
      have AB := Lib.hid (aheads_bd Z.out)
      clear hown hb hIn
      go_wp2
      go_loopg [7, 8] 1801 (TwI wo L ah t)
      case atStart => exact ⟨0, by omega, rfl, rfl, World.ownsRow_nil _ _ _ _, Below.refl _ _⟩
      case round =>
        obtain ⟨k, hk, rfl, hg, hown, hb⟩ := hrel
        have G2 := Lib.hid hg; clear hg
        have y0 := cell_below hb z0
        have y1 := cell_below hb z1
        have hlq := Nat.lt_of_lt_of_le hlw hb.size
        have BW := Lib.hid (HB.out.trans (hb.mono HB.out.size))
        have IQ := Lib.hid (HI.out.below hb)
        have BO := Lib.hid hb; have OW := Lib.hid hown
        have hhl : (hits ah L t (tries ah L k)).length ≤ 1801 := Nat.le_trans (hits_len _ _ _ _) (Nat.le_trans (tries_len _ _ _) hk)
        clear hb hown
        by_cases hlt : k < 1801
        · obtain ⟨n, hn⟩ : ∃ n : Int, n = 900 - (k : Int) := ⟨_, rfl⟩
          rw [← hn]
          have n1 : -900 ≤ n := by omega
          have n2 : n ≤ 900 := by omega
          have N := Lib.hid hn
          clear hn
          by_cases hin : inB (aheads ah L) n = true
          · have IN := Lib.hid hin; clear hin
            by_cases hv : timeB (t - n) = true
            · have V := Lib.hid hv; clear hv
              obtain ⟨z, hz⟩ : ∃ z, z = zoneOf ah L (t - n) := ⟨_, rfl⟩
              have ZZ := Lib.hid hz
              clear hz
              by_cases he : z = n
              · have E := Lib.hid he
                have he2 : (z == n) = true := by simpa using he
                clear he
                go_wp2_with fail
                refine (rin_any _ _ n _ IQ.out).mono ?_; rintro e w' ⟨rfl, rfl⟩
                rw [IN.out]
                go_wp2_with fail
                refine (rtime_any _ _).mono ?_; rintro e w' ⟨rfl, rfl⟩
                rw [V.out]
                go_wp2_with fail
                refine (rzahead_any _ L ah (t - n) _ (HL.out.below BW.out)).mono ?_; rintro e w2 ⟨rfl, hb2⟩
                rw [← ZZ.out]
                have hown2 := own_below OW.out hb2
                have hs2 := hb2.size
                have hso := BO.out.size
                have B2 := Lib.hid hb2; clear hb2
                go_wp2_with (at_builtin; refine wpList_append_lies _ rfl _ _ 22 rfl wo.heap.size 3 i0 _ 1 8 Tryz.underlying22 hi hz0 hz1 hz2 rfl (by decide) _ _ _ rfl (hown2.alloc _) ⟨w2.heap.size, 0, none⟩ 1 1 [.int .i64 (t - n)] rfl rfl ?e1 ?e2 (by decide) (by unfold maxLen; omega) (by omega) (by simp; omega) _ rfl ?_)
                case e1 => exact cell_one_new _ _ _
                case e2 => intro u hu; simp at hu; subst hu; rfl
                intro g3 cap3 w3 hown3 hgrow3 hat3 hlt3
                have hB3 : Below wo.heap.size wo w3 := ((BO.out.trans (B2.out.mono hso)).alloc (by omega) _).grown hgrow3 (by simp; omega) (fun c hc => (hown2.lt c hc).1)
                have R := Lib.hid (twI_yes hlt (by rw [← N.out, IN.out]) (by rw [← N.out, hitB, V.out, ← ZZ.out, E.out]; simp) rfl (by rw [← N.out]; exact hown3) hB3)
                clear hB3 hown3 hgrow3 hat3 hlt3 hown2
                go_wp2
                go_roundg (1801 - (k + 1))
                case measure => rw [G2.out]; omega
                case rel =>
                  have h := R.out
                  rw [show (900 : Int) - ((k + 1 : Nat) : Int) = n - 1 by rw [N.out]; omega] at h
                  exact h
              · have E := Lib.hid he
                have he2 : (z == n) = false := by simpa using he
                clear he
                go_wp2_with fail
                refine (rin_any _ _ n _ IQ.out).mono ?_; rintro e w' ⟨rfl, rfl⟩
                rw [IN.out]
                go_wp2_with fail
                refine (rtime_any _ _).mono ?_; rintro e w' ⟨rfl, rfl⟩
                rw [V.out]
                go_wp2_with fail
                refine (rzahead_any _ L ah (t - n) _ (HL.out.below BW.out)).mono ?_; rintro e w2 ⟨rfl, hb2⟩
                rw [← ZZ.out]
                have R := Lib.hid (twI_no hlt (.inr (by rw [← N.out, hitB, V.out, ← ZZ.out]; simpa using E.out)) (own_below OW.out hb2) (BO.out.trans (hb2.mono BO.out.size)))
                clear hb2
                go_wp2
                go_roundg (1801 - (k + 1))
                case measure => rw [G2.out]; omega
                case rel =>
                  have h := R.out
                  rw [show (900 : Int) - ((k + 1 : Nat) : Int) = n - 1 by rw [N.out]; omega] at h
                  exact h
            · have hv' : timeB (t - n) = false := by simpa using hv
              have V := Lib.hid hv'
              clear hv hv'
              have R := Lib.hid (twI_no hlt (.inr (by rw [← N.out, hitB, V.out]; rfl)) OW.out BO.out)
              go_wp2_with fail
              refine (rin_any _ _ n _ IQ.out).mono ?_; rintro e w' ⟨rfl, rfl⟩
              rw [IN.out]
              go_wp2_with fail
              refine (rtime_any _ _).mono ?_; rintro e w' ⟨rfl, rfl⟩
              rw [V.out]
              go_wp2
              go_roundg (1801 - (k + 1))
              case measure => rw [G2.out]; omega
              case rel =>
                have h := R.out
                rw [show (900 : Int) - ((k + 1 : Nat) : Int) = n - 1 by rw [N.out]; omega] at h
                exact h
          · have hin' : inB (aheads ah L) n = false := by simpa using hin
            have IN := Lib.hid hin'
            clear hin hin'
            have R := Lib.hid (twI_no hlt (.inl (by rw [← N.out, IN.out])) OW.out BO.out)
            go_wp2_with fail
            refine (rin_any _ _ n _ IQ.out).mono ?_; rintro e w' ⟨rfl, rfl⟩
            rw [IN.out]
            go_wp2_with fail
            refine (rtime_any _ _).mono ?_; rintro e w' ⟨rfl, rfl⟩
            go_wp2
            go_roundg (1801 - (k + 1))
            case measure => rw [G2.out]; omega
            case rel =>
              have h := R.out
              rw [show (900 : Int) - ((k + 1 : Nat) : Int) = n - 1 by rw [N.out]; omega] at h
              exact h
        · obtain rfl : k = 1801 := by omega
          have T := Lib.hid (zoneAll_ref Z.out t)
          clear hlt
          go_wp2
          go_ret
          have h := OW.out
          rw [T.out] at h
          exact ⟨_, rfl, h.mono HB.out.size, BW.out⟩

end Go.Proofs.YtgelojhpanbnaaaGreatDoor

namespace Go.Proofs.YtgelojhpanbnaaaGreatDoor
open Go.RowKit Go.Shelf
set_option linter.unusedSimpArgs false
set_option linter.unusedVariables false

set_option maxHeartbeats 4000000 in
theorem ralarm_any (o r b : Int) (en : Bool) (w : World) :
    Calls Tryz.prog 116 #[.agg #[.int .i64 o, .bool en, .int .i64 r, .int .i64 b]] w fun e w' => e = .returned (.int .i64 (almE o r b)) ∧ Below w.heap.size w w' := by
  have HB := fun o => Lib.hid (show Below w.heap.size w (w.alloc o) from (Below.refl _ _).alloc (Nat.le_refl _) _)
  by_cases h : o < -100000 ∨ 100000 < o ∨ r < 0 ∨ 5 < r ∨ (0 < r ∧ (b < 1 ∨ 10000 < b)) ∨ (r = 0 ∧ b ≠ 0)
  · have E := Lib.hid (show almE o r b = 1 by rw [almE, if_pos h])
    have tt : decide (o < -100000) = true ∨
      (decide (o < -100000) = false ∧ decide (100000 < o) = true) ∨
      (decide (o < -100000) = false ∧ decide (100000 < o) = false ∧ decide (r < 0) = true) ∨
      (decide (o < -100000) = false ∧ decide (100000 < o) = false ∧ decide (r < 0) = false ∧ decide (5 < r) = true) ∨
      (decide (o < -100000) = false ∧ decide (100000 < o) = false ∧ decide (r < 0) = false ∧ decide (5 < r) = false ∧ decide (0 < r) = true ∧ decide (b < 1) = true) ∨
      (decide (o < -100000) = false ∧ decide (100000 < o) = false ∧ decide (r < 0) = false ∧ decide (5 < r) = false ∧ decide (0 < r) = true ∧ decide (b < 1) = false ∧ decide (10000 < b) = true) ∨
      (decide (o < -100000) = false ∧ decide (100000 < o) = false ∧ decide (r < 0) = false ∧ decide (5 < r) = false ∧ decide (0 < r) = false ∧ (r == 0) = true ∧ (b == 0) = false ∧ (b != 0) = true) := by
      simp only [decide_eq_true_eq, decide_eq_false_iff_not, beq_iff_eq, beq_eq_false_iff_ne, bne_iff_ne, ne_eq]; omega
    clear h
    rcases tt with t1 | ⟨t1, t2⟩ | ⟨t1, t2, t3⟩ | ⟨t1, t2, t3, t4⟩ | ⟨t1, t2, t3, t4, t5, t6⟩ | ⟨t1, t2, t3, t4, t5, t6, t7⟩ | ⟨t1, t2, t3, t4, t5, t6, t7, t8⟩
    all_goals
      go_enter Tryz.func116, Tryz.ntmps116
      go_wp2
      go_ret
      exact ⟨by rw [E.out]; rfl, (HB _).out⟩
  · have E := Lib.hid (show almE o r b = 0 by rw [almE, if_neg h])
    have t1 : decide (o < -100000) = false := decide_eq_false (by omega)
    have t2 : decide (100000 < o) = false := decide_eq_false (by omega)
    have t3 : decide (r < 0) = false := decide_eq_false (by omega)
    have t4 : decide (5 < r) = false := decide_eq_false (by omega)
    have tt : (decide (0 < r) = true ∧ decide (b < 1) = false ∧ decide (10000 < b) = false ∧ (r == 0) = false) ∨ (decide (0 < r) = false ∧ (r == 0) = true ∧ (b == 0) = true ∧ (b != 0) = false) := by
      simp only [decide_eq_true_eq, decide_eq_false_iff_not, beq_iff_eq, beq_eq_false_iff_ne, bne_eq_false_iff_eq, ne_eq]; omega
    clear h
    rcases tt with ⟨t5, t6, t7, t8⟩ | ⟨t5, t6, t7, t8⟩
    all_goals
      go_enter Tryz.func116, Tryz.ntmps116
      go_wp2
      go_ret
      exact ⟨by rw [E.out]; rfl, (HB _).out⟩

set_option maxHeartbeats 4000000 in
theorem rname_any (l : List UInt8) (w : World) (hs : l.length ≤ 140737488351232) :
    Calls Tryz.prog 112 #[.string (bs l)] w fun e w' => e = .returned (.bool (nameB l)) ∧ w = w' := by
  obtain ⟨s, hs0⟩ : ∃ s, s = bs l := ⟨_, rfl⟩
  have hsz : s.size = l.length := by rw [hs0, bs_size]
  have hget : ∀ k (h : k < l.length) (h2 : k < s.size), s[k] = l[k] := by subst hs0; exact fun k h h2 => bs_get l k h h2
  have hto : s.toList = l := by rw [hs0]; exact bs_toList l
  rw [← hs0]
  have SZ := Lib.hid hsz; have GT := Lib.hid hget
  by_cases h0 : l = []
  · have E := Lib.hid (show nameB l = false by simp [nameB, h0])
    have q1 : s.toList.isEmpty = true := by rw [hto, h0]; rfl
    have q2 : s.toList = [] := by rw [hto, h0]
    clear h0 hs0 hget hsz hto
    go_enter Tryz.func112, Tryz.ntmps112
    go_wp2
    go_ret
    exact ⟨by rw [E.out]; rfl, rfl⟩
  have q1 : s.toList.isEmpty = false := by rw [hto]; simpa using h0
  have q2 : ¬ s.toList = [] := by rw [hto]; exact h0
  by_cases h8 : 8 < l.length
  · have t1 : decide ((8 : Int) < (s.size : Int)) = true := decide_eq_true (by omega)
    have t1b : decide (8 < s.size) = true := decide_eq_true (by omega)
    have E := Lib.hid (show nameB l = false by rw [nameB, show decide (l.length ≤ 8) = false from decide_eq_false (by omega)]; simp)
    clear h0 h8 hs0 hget hsz hto
    go_enter Tryz.func112, Tryz.ntmps112
    go_wp2
    go_ret
    exact ⟨by rw [E.out]; rfl, rfl⟩
  have t1 : decide ((8 : Int) < (s.size : Int)) = false := decide_eq_false (by omega)
  have t1b : decide (8 < s.size) = false := decide_eq_false (by omega)
  have E := Lib.hid (show nameB l = !l.any (fun c : UInt8 => nameOut (c.toNat : Int)) by rw [nameB, show l.isEmpty = false by simpa using h0, show decide (l.length ≤ 8) = true from decide_eq_true (by omega)]; simp)
  have l8 : s.size ≤ 8 := by omega
  clear h0 h8 hs0 hget hsz hto
  go_enter Tryz.func112, Tryz.ntmps112
  go_wp2
  clear q1 q2 t1 t1b
  go_loopg [3] l.length (fun g iv wr => ∃ (k : Nat), k ≤ l.length ∧ iv = .int .i64 k ∧ g = l.length - k ∧ Hid ((l.take k).any (fun c : UInt8 => nameOut (c.toNat : Int)) = false) ∧ wr = w)
  case atStart => exact ⟨0, Nat.zero_le _, rfl, rfl, Lib.hid (by simp), rfl⟩
  case round =>
    obtain ⟨k, hk, rfl, hg, NO, rfl⟩ := hrel
    have G := Lib.hid hg; clear hg
    by_cases hlt : k < s.size
    · have hlt2 : k < l.length := by rw [← SZ.out]; exact hlt
      obtain ⟨n, hn⟩ : ∃ n : Int, n = ((s[k]).toNat : Int) := ⟨_, rfl⟩
      have N := Lib.hid (show nameOut (l[k].toNat : Int) = nameOut n by rw [hn, GT.out k hlt2 hlt])
      have hcn : ((s[k]).toNat : Int) = n := hn.symm
      clear hn
      have i1 : (0 : Int) ≤ (k : Int) := Int.natCast_nonneg _
      have i2 : (k : Int) < (s.size : Int) := by omega
      by_cases h1 : n < 97
      · have d1 : decide (n < 97) = true := decide_eq_true h1
        have F := Lib.hid (show nameB l = false by rw [E.out, any_yes (p := fun c : UInt8 => nameOut (c.toNat : Int)) hlt2 (by show nameOut _ = true; rw [N.out, nameOut]; simp [h1])]; rfl)
        clear h1
        go_wp2
        go_ret
        exact ⟨by rw [F.out]; rfl, rfl⟩
      have d1 : decide (n < 97) = false := decide_eq_false h1
      by_cases h2 : 122 < n
      · have d2 : decide (122 < n) = true := decide_eq_true h2
        have F := Lib.hid (show nameB l = false by rw [E.out, any_yes (p := fun c : UInt8 => nameOut (c.toNat : Int)) hlt2 (by show nameOut _ = true; rw [N.out, nameOut]; simp [h2])]; rfl)
        clear h1 h2
        go_wp2
        go_ret
        exact ⟨by rw [F.out]; rfl, rfl⟩
      have d2 : decide (122 < n) = false := decide_eq_false h2
      have F := Lib.hid (any_no (p := fun c : UInt8 => nameOut (c.toNat : Int)) hlt2 NO.out (by show nameOut _ = false; rw [N.out, nameOut, d1, d2]; rfl))
      clear h1 h2
      go_wp2
      go_roundg (l.length - (k + 1))
      case measure => rw [G.out]; omega
      case rel => exact ⟨k + 1, by omega, by go_num, rfl, F, rfl⟩
    · obtain rfl : k = l.length := by have := SZ.out; omega
      have F := Lib.hid (show nameB l = true by rw [E.out]; have := NO.out; rw [List.take_length] at this; rw [this]; rfl)
      go_wp2
      go_ret
      exact ⟨by rw [F.out]; rfl, rfl⟩

set_option maxHeartbeats 2000000 in
theorem rtimesB_any (v : Value) (L : List Int) (w : World) (hL : IntsR w v L) :
    Calls Tryz.prog 114 #[v] w fun e w' => e = .returned (.bool (!L.any badT)) ∧ w = w' := by
  obtain ⟨a, cap, rfl, hc1, hc2, hcell⟩ := intsR_open hL
  unfold maxLen at hc2
  have HC := Lib.hid hcell; clear hcell hL
  go_enter Tryz.func114, Tryz.ntmps114
  go_wp2
  go_loopg [3] L.length (fun g i wr => ∃ k : Nat, k ≤ L.length ∧ i = .int .i64 k ∧ Hid ((L.take k).any badT = false) ∧ g = L.length - k ∧ wr = w)
  case atStart => exact ⟨0, Nat.zero_le _, rfl, Lib.hid (by simp), rfl, rfl⟩
  case round =>
    obtain ⟨k, hk, rfl, hS, hg, rfl⟩ := hrel
    have G := Lib.hid hg; clear hg
    by_cases hlt : k < L.length
    · obtain ⟨b, off, rfl, hcs⟩ := HC.out (by omega)
      have c0 := hcs k hlt
      obtain ⟨x, hx⟩ : ∃ x, x = L[k] := ⟨_, rfl⟩
      rw [← hx] at c0
      have X := Lib.hid hx
      obtain ⟨t, ht⟩ : ∃ t, t = timeB x := ⟨_, rfl⟩
      have TX := Lib.hid (show badT L[k] = !t by rw [← hx, badT, ht])
      have RT := Lib.hid (show ∀ wx, Calls Tryz.prog 44 #[.int .i64 x] wx (fun e w' => e = .returned (.bool t) ∧ wx = w') from fun wx => by rw [ht]; exact rtime_any x wx)
      have i1 : (0 : Int) ≤ (k : Int) := Int.natCast_nonneg _
      have i2 : (k : Int) < (L.length : Int) := by omega
      clear hx hcs ht
      go_wp2_with fail
      refine (RT.out _).mono ?_; rintro e w2 ⟨rfl, rfl⟩
      clear RT
      cases t
      · have F := Lib.hid (show (!L.any badT) = false by rw [any_yes (p := badT) hlt (by rw [TX.out]; rfl)]; rfl)
        go_wp2
        go_ret
        exact ⟨by rw [F.out]; rfl, rfl⟩
      · have F := Lib.hid (any_no (p := badT) hlt hS.out (by rw [TX.out]; rfl))
        go_wp2
        go_roundg (L.length - (k + 1))
        case measure => rw [G.out]; omega
        case rel => exact ⟨k + 1, by omega, by go_num, F, rfl, rfl⟩
    · obtain rfl : k = L.length := by omega
      have F := Lib.hid (show (!L.any badT) = true by have := hS.out; rw [List.take_length] at this; rw [this]; rfl)
      go_wp2
      go_ret
      exact ⟨by rw [F.out]; rfl, rfl⟩

set_option maxHeartbeats 2000000 in
theorem rstretch_any (a b : Int) (w : World) : Calls Tryz.prog 31 #[.int .i64 a, .int .i64 b] w fun e w' => e = .returned (.int .i64 (spanE a b)) ∧ w = w' := by
  obtain ⟨S, hS⟩ : ∃ S, S = spanE a b := ⟨_, rfl⟩
  rw [← hS]
  obtain ⟨ta, hta⟩ : ∃ t, t = timeB a := ⟨_, rfl⟩
  obtain ⟨tb, htb⟩ : ∃ t, t = timeB b := ⟨_, rfl⟩
  have SE := Lib.hid hS; have TA := Lib.hid hta; have TB := Lib.hid htb
  have R1 := Lib.hid (show ∀ wx, Calls Tryz.prog 44 #[.int .i64 a] wx (fun e w' => e = .returned (.bool ta) ∧ wx = w') from fun wx => by rw [hta]; exact rtime_any a wx)
  have R2 := Lib.hid (show ∀ wx, Calls Tryz.prog 44 #[.int .i64 b] wx (fun e w' => e = .returned (.bool tb) ∧ wx = w') from fun wx => by rw [htb]; exact rtime_any b wx)
  clear hS hta htb
  go_enter Tryz.func31, Tryz.ntmps31
  go_wp2_with fail
  refine (R1.out _).mono ?_; rintro e w2 ⟨rfl, rfl⟩
  go_wp2_with fail
  refine (R2.out _).mono ?_; rintro e w2 ⟨rfl, rfl⟩
  cases ta
  · have Q := Lib.hid (show S = 1 by rw [SE.out, spanE, if_neg (by rw [← TA.out]; simp)])
    go_wp2
    go_ret
    exact ⟨by rw [Q.out]; rfl, rfl⟩
  cases tb
  · have Q := Lib.hid (show S = 1 by rw [SE.out, spanE, if_neg (by rw [← TB.out]; simp)])
    go_wp2
    go_ret
    exact ⟨by rw [Q.out]; rfl, rfl⟩
  obtain ⟨a1, a2⟩ := timeB_yes TA.out.symm
  obtain ⟨b1, b2⟩ := timeB_yes TB.out.symm
  by_cases g1 : b < a
  · have Q := Lib.hid (show S = 1 by rw [SE.out, spanE, if_neg (by omega)])
    have t1 : decide (b < a) = true := decide_eq_true g1
    clear g1
    go_wp2
    go_ret
    exact ⟨by rw [Q.out]; rfl, rfl⟩
  have t1 : decide (b < a) = false := decide_eq_false g1
  have s1 : IntKind.i64.wrap (b - a) = b - a := IntWalk.i64_in _ (by omega)
  by_cases g2 : 1000000 < b - a
  · have Q := Lib.hid (show S = 1 by rw [SE.out, spanE, if_neg (by omega)])
    have t2 : decide (1000000 < b - a) = true := decide_eq_true g2
    clear g1 g2
    go_wp2
    go_ret
    exact ⟨by rw [Q.out]; rfl, rfl⟩
  · have Q := Lib.hid (show S = 0 by rw [SE.out, spanE, if_pos ⟨TA.out.symm, TB.out.symm, by omega, by omega⟩])
    have t2 : decide (1000000 < b - a) = false := decide_eq_false g2
    clear g1 g2
    go_wp2
    go_ret
    exact ⟨by rw [Q.out]; rfl, rfl⟩

end Go.Proofs.YtgelojhpanbnaaaGreatDoor
