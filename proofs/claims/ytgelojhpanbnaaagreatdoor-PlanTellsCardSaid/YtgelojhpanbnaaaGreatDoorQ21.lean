/- Texts joined into one (a claim has at most 60 files): errors.As at an error of the kind api.Errno and a target of that kind: the walk of its text, by closed facts on the model's entries for reflectlite; Contracts of plain.Told and chimesame.Error: the number of an error that is nil or an api.Errno; From the rows' condition on the listed package-level variables to what the walks ask: the handle of the type error; Numbers without what is twice in a row, one by one; An event as an argument, opened, with the bounds of its rule's lists; Closed facts of the whole program that each law's frame asks. -/
import Derived.Test.YtgelojhpanbnaaaGreatDoorQ01
import Derived.LaidEql
import Derived.Stop.Asserts
import Derived.RowKitTokens
import Derived.Test.YtgelojhpanbnaaaGreatDoorQ09
import Derived.LaidHandle
import Derived.Lib.SlicesCompact
import Derived.Test.YtgelojhpanbnaaaGreatDoorQ10
import Derived.Test.YtgelojhpanbnaaaGreatDoorRows
import Derived.JoinedCond
import Derived.WalkKit
import Derived.ProofKit
import Derived.KernelRfl
namespace Go.Proofs.YtgelojhpanbnaaaGreatDoor
open Go.RowKit Go.Extern.Stop Go.Stop Go.Extern

theorem as_valueOf27 (t : Addr) (w : World) : (ReflectliteValue.unpack (.iface 232 (.pointer (some t)))).run Tryz.prog w
    = .ok (.agg #[.pointer (some ⟨3, 232, none⟩), .pointer (some ⟨w.heap.size, 0, none⟩), .int .u64 150]) (w.alloc (.cells #[.pointer (some t)] 232)) := by kernel_rfl

theorem as_type27 (a : Addr) (w : World) : (ReflectliteValue.methodAny (ReflectliteValue.valueError "reflectlite.Value.Type" 0) (fun t _ _ _ => ReflectliteType.toType t) #[.agg #[.pointer (some ⟨3, 232, none⟩), .pointer (some a), .int .u64 150]]).run Tryz.prog w
    = .ok (.iface 313 (.agg #[.pointer (some ⟨3, 232, none⟩)])) w := by kernel_rfl

theorem as_methodKind (h : Value) (w : World) : (Go.method 483 313 (.agg #[h]) "Kind").run Tryz.prog w = .ok (319, h) w := by kernel_rfl

theorem as_kind27 (w : World) : ((ReflectliteType.abiMethod fun t => (fun a : Nat => Value.int IntKind.u8 (a : Int)) <$> Rtype.kind t) #[.pointer (some ⟨3, 232, none⟩)]).run Tryz.prog w = .ok (.int .u8 22) w := by kernel_rfl

theorem as_kind25 (w : World) : ((ReflectliteType.abiMethod fun t => (fun a : Nat => Value.int IntKind.u8 (a : Int)) <$> Rtype.kind t) #[.pointer (some ⟨3, 124, none⟩)]).run Tryz.prog w = .ok (.int .u8 2) w := by kernel_rfl

theorem rlm (z : Sem Value) (f : TypeId → Addr → Nat → Nat → Sem Value) (v : Value) :
    ReflectliteValue.method z f #[v] = (do match ← ReflectliteValue.parts v with | none => z | some (t, a, fl) => f t a fl (fl % 32)) := rfl

theorem as_parts27 (a : Addr) (w : World) : (ReflectliteValue.parts (.agg #[.pointer (some ⟨3, 232, none⟩), .pointer (some a), .int .u64 150])).run Tryz.prog w = .ok (some (232, a, 150)) w := by kernel_rfl

theorem as_isNil27 (a p : Addr) (W : World) (ha : W.cell? a = some (.pointer (some p))) :
    (ReflectliteValue.method (ReflectliteValue.valueError "reflectlite.Value.IsNil" 0) ReflectliteValue.isNil #[.agg #[.pointer (some ⟨3, 232, none⟩), .pointer (some a), .int .u64 150]]).run Tryz.prog W = .ok (.bool false) W := by
  rw [rlm]
  simp only [Sem.run_bind, as_parts27, Result.andThen]
  simp [ReflectliteValue.isNil, loadVar, isAgg, underlying, Tryz.underlying232, ha, Result.andThen]

theorem as_methodElem (h : Value) (w : World) : (Go.method 483 313 (.agg #[h]) "Elem").run Tryz.prog w = .ok (329, .agg #[h]) w := by kernel_rfl

theorem as_methodImplements (h : Value) (w : World) : (Go.method 483 313 (.agg #[h]) "Implements").run Tryz.prog w = .ok (330, .agg #[h]) w := by kernel_rfl

theorem as_methodAssignableTo (h : Value) (w : World) : (Go.method 483 313 (.agg #[h]) "AssignableTo").run Tryz.prog w = .ok (327, .agg #[h]) w := by kernel_rfl

theorem as_elem27 (w : World) : (ReflectliteType.method ReflectliteType.elem #[.agg #[.pointer (some ⟨3, 232, none⟩)]]).run Tryz.prog w = .ok (.iface 313 (.agg #[.pointer (some ⟨3, 124, none⟩)])) w := by kernel_rfl

theorem as_implements25 (w : World) : (ReflectliteType.relation "Implements" ReflectliteType.implements_ #[.agg #[.pointer (some ⟨3, 124, none⟩)], .iface 313 (.agg #[.pointer (some ⟨3, 35, none⟩)])]).run Tryz.prog w = .ok (.bool true) w := by kernel_rfl

theorem as_typeOf25 (v : Value) (w : World) : (ReflectliteType.typeOf #[.iface 124 v]).run Tryz.prog w = .ok (.iface 313 (.agg #[.pointer (some ⟨3, 124, none⟩)])) w := by kernel_rfl

theorem as_assignable25 (w : World) : (ReflectliteType.relation "AssignableTo" ReflectliteType.assignableTo #[.agg #[.pointer (some ⟨3, 124, none⟩)], .iface 313 (.agg #[.pointer (some ⟨3, 124, none⟩)])]).run Tryz.prog w = .ok (.bool true) w := by kernel_rfl

theorem as_valueOf25 (n : Int) (w : World) : (ReflectliteValue.unpack (.iface 124 (.int .i64 n))).run Tryz.prog w
    = .ok (.agg #[.pointer (some ⟨3, 124, none⟩), .pointer (some ⟨w.heap.size, 0, none⟩), .int .u64 130]) (w.alloc (.cells #[.int .i64 n] 124)) := by kernel_rfl

theorem as_elemOf27 (w : World) : (Rtype.elem? 232).run Tryz.prog w = .ok (some 124) w := by kernel_rfl

theorem as_mk25 (p : Addr) (w : World) : (ReflectliteValue.mk 124 p ReflectliteValue.flagAddr).run Tryz.prog w = .ok (.agg #[.pointer (some ⟨3, 124, none⟩), .pointer (some p), .int .u64 386]) w := by kernel_rfl

theorem as_elemV27 (a p : Addr) (W : World) (ha : W.cell? a = some (.pointer (some p))) :
    (ReflectliteValue.method (ReflectliteValue.valueError "reflectlite.Value.Elem" 0) ReflectliteValue.elem #[.agg #[.pointer (some ⟨3, 232, none⟩), .pointer (some a), .int .u64 150]]).run Tryz.prog W
      = .ok (.agg #[.pointer (some ⟨3, 124, none⟩), .pointer (some p), .int .u64 386]) W := by
  rw [rlm]
  simp only [Sem.run_bind, as_parts27, Result.andThen]
  simp [ReflectliteValue.elem, loadVar, isAgg, underlying, Tryz.underlying232, ha, Result.andThen, as_elemOf27, as_mk25]

theorem rls (v x : Value) : ReflectliteValue.set #[v, x] = (do
    let (some (dst, a, fl), some (src, b, _)) := (← ReflectliteValue.parts v, ← ReflectliteValue.parts x)
      | unsupported (.noEntry "extern/(internal/reflectlite.Value).Set.zeroValue")
    if fl / ReflectliteValue.flagAddr % 2 == 0 then unsupported (.noEntry "extern/(internal/reflectlite.Value).Set.unaddressable")
    let val ← loadVar src b
    if ← Rtype.directlyAssignable dst src then storeVar dst a val
    else if ← Rtype.implements dst src then
      if (← Rtype.kind src) == 20 then
        match val with
        | .nilIface => unsupported (.noEntry "extern/reflectlite: a nil value of one interface type handed on as a value of another")
        | _ => storeVar dst a val
      else storeVar dst a (.iface src val)
    else panicString ("reflectlite.Set: value of type " ++ (← Rtype.spelt src) ++ " is not assignable to type " ++ (← Rtype.spelt dst))
    pure (.tuple #[])) := rfl

theorem as_parts25a (a : Addr) (w : World) : (ReflectliteValue.parts (.agg #[.pointer (some ⟨3, 124, none⟩), .pointer (some a), .int .u64 386])).run Tryz.prog w = .ok (some (124, a, 386)) w := by kernel_rfl

theorem as_parts25 (a : Addr) (w : World) : (ReflectliteValue.parts (.agg #[.pointer (some ⟨3, 124, none⟩), .pointer (some a), .int .u64 130])).run Tryz.prog w = .ok (some (124, a, 130)) w := by kernel_rfl

theorem as_direct25 (w : World) : (Rtype.directlyAssignable 124 124).run Tryz.prog w = .ok true w := by kernel_rfl

theorem as_set25 (ta b : Addr) (n : Int) (old : Value) (W : World) (hb : W.cell? b = some (.int .i64 n)) (ht : W.cell? ta = some old) (hf : W.frozen? ta = false) :
    (ReflectliteValue.set #[.agg #[.pointer (some ⟨3, 124, none⟩), .pointer (some ta), .int .u64 386], .agg #[.pointer (some ⟨3, 124, none⟩), .pointer (some b), .int .u64 130]]).run Tryz.prog W
      = .ok (.tuple #[]) (W.setCell ta (.int .i64 n)) := by
  rw [rls]
  simp only [Sem.run_bind, as_parts25a, as_parts25, Result.andThen]
  simp [ReflectliteValue.flagAddr, loadVar, isAgg, underlying, Tryz.underlying124, hb, Result.andThen, as_direct25, storeVar, Value.cells, storeCells, Addr.add]
  rw [run_store Tryz.prog W ta _ _ (by rfl)]
  simp [ht, hf]

set_option maxHeartbeats 4000000 in
theorem as_hit (n : Int) (t : Addr) (old : Value) (w : World) (hg : w.cell? ⟨1, 0, none⟩ = some (.iface 313 (.agg #[.pointer (some ⟨3, 35, none⟩)]))) (ht0 : w.cell? t = some old) (hf0 : w.frozen? t = false) :
    Calls Tryz.prog 171 #[.iface 124 (.int .i64 n), .iface 232 (.pointer (some t))] w fun ev w' => ev = .returned (.bool true) ∧ w' = ((((w.alloc (.cells #[.pointer (some t)] 232)).alloc (.cells #[.pointer (some ⟨3, 232, none⟩), .pointer (some ⟨w.heap.size, 0, none⟩), .int .u64 150] 274)).alloc (.cells #[.pointer (some ⟨3, 232, none⟩), .pointer (some ⟨w.heap.size, 0, none⟩), .int .u64 150] 274)).alloc (.cells #[.int .i64 n] 124)).setCell t (.int .i64 n) := by
  have h6 := @run_callFunc_extern Tryz.prog 221 _ (fun args => ReflectliteValue.unpack (args.getD 0 (.tuple #[]))) Tryz.func221 (by kernel_rfl) (by kernel_rfl) (by kernel_rfl) (by kernel_rfl)
  have h7 := @run_callFunc_extern Tryz.prog 222 _ (ReflectliteValue.methodAny (ReflectliteValue.valueError "reflectlite.Value.Type" 0) (fun t _ _ _ => ReflectliteType.toType t)) Tryz.func222 (by kernel_rfl) (by kernel_rfl) (by kernel_rfl) (by kernel_rfl)
  have h8 := @run_callFunc_extern Tryz.prog 223 _ (ReflectliteValue.method (ReflectliteValue.valueError "reflectlite.Value.IsNil" 0) ReflectliteValue.isNil) Tryz.func223 (by kernel_rfl) (by kernel_rfl) (by kernel_rfl) (by kernel_rfl)
  have h27 := @run_callFunc_extern Tryz.prog 319 _ (ReflectliteType.abiMethod fun t => do pure (.int .u8 (← Rtype.kind t))) Tryz.func319 (by kernel_rfl) (by kernel_rfl) (by kernel_rfl) (by kernel_rfl)
  have h37 := @run_callFunc_extern Tryz.prog 329 _ (ReflectliteType.method ReflectliteType.elem) Tryz.func329 (by kernel_rfl) (by kernel_rfl) (by kernel_rfl) (by kernel_rfl)
  have h38 := @run_callFunc_extern Tryz.prog 330 _ (ReflectliteType.relation "Implements" ReflectliteType.implements_) Tryz.func330 (by kernel_rfl) (by kernel_rfl) (by kernel_rfl) (by kernel_rfl)
  have h10 := @run_callFunc_extern Tryz.prog 262 _ ReflectliteType.typeOf Tryz.func262 (by kernel_rfl) (by kernel_rfl) (by kernel_rfl) (by kernel_rfl)
  have h35 := @run_callFunc_extern Tryz.prog 327 _ (ReflectliteType.relation "AssignableTo" ReflectliteType.assignableTo) Tryz.func327 (by kernel_rfl) (by kernel_rfl) (by kernel_rfl) (by kernel_rfl)
  have h11 := @run_callFunc_extern Tryz.prog 263 _ (ReflectliteValue.method (ReflectliteValue.valueError "reflectlite.Value.Elem" 0) ReflectliteValue.elem) Tryz.func263 (by kernel_rfl) (by kernel_rfl) (by kernel_rfl) (by kernel_rfl)
  have h12 := @run_callFunc_extern Tryz.prog 264 _ ReflectliteValue.set Tryz.func264 (by kernel_rfl) (by kernel_rfl) (by kernel_rfl) (by kernel_rfl)
  have tO := as_typeOf25
  have mA := as_methodAssignableTo
  have a25 := as_assignable25
  have v25 := as_valueOf25
  have f6 := as_valueOf27
  have f7 := as_type27
  have mK := as_methodKind
  have mE := as_methodElem
  have mI := as_methodImplements
  have k27 := as_kind27
  have k25 := as_kind25
  have e27 := as_elem27
  have i25 := as_implements25
  have n8 := as_isNil27 ⟨w.heap.size, 0, none⟩ t ((w.alloc (.cells #[.pointer (some t)] 232)).alloc (.cells #[.pointer (some ⟨3, 232, none⟩), .pointer (some ⟨w.heap.size, 0, none⟩), .int .u64 150] 274)) (by simp)
  have hlt : 1 < w.heap.size := by
    rcases Nat.lt_or_ge 1 w.heap.size with h | h
    · exact h
    · simp [World.cell?, Array.getElem?_eq_none h] at hg
  have hg2 : ((w.alloc (.cells #[.pointer (some t)] 232)).alloc (.cells #[.pointer (some ⟨3, 232, none⟩), .pointer (some ⟨w.heap.size, 0, none⟩), .int .u64 150] 274)).cell? ⟨1, 0, none⟩ = some (.iface 313 (.agg #[.pointer (some ⟨3, 35, none⟩)])) := by
    rw [World.cell?_alloc_lt _ _ ⟨1, 0, none⟩ (by simp <;> omega), World.cell?_alloc_lt _ _ ⟨1, 0, none⟩ hlt]; exact hg
  have htl : t.block < w.heap.size := by
    rcases Nat.lt_or_ge t.block w.heap.size with h | h
    · exact h
    · simp [World.cell?, Array.getElem?_eq_none h] at ht0
  have el := as_elemV27 ⟨w.heap.size, 0, none⟩ t (((w.alloc (.cells #[.pointer (some t)] 232)).alloc (.cells #[.pointer (some ⟨3, 232, none⟩), .pointer (some ⟨w.heap.size, 0, none⟩), .int .u64 150] 274)).alloc (.cells #[.pointer (some ⟨3, 232, none⟩), .pointer (some ⟨w.heap.size, 0, none⟩), .int .u64 150] 274)) (by rw [World.cell?_alloc_lt _ _ ⟨w.heap.size, 0, none⟩ (by simp; omega)]; simp)
  have st := as_set25 t ⟨w.heap.size + 1 + 1 + 1, 0, none⟩ n old ((((w.alloc (.cells #[.pointer (some t)] 232)).alloc (.cells #[.pointer (some ⟨3, 232, none⟩), .pointer (some ⟨w.heap.size, 0, none⟩), .int .u64 150] 274)).alloc (.cells #[.pointer (some ⟨3, 232, none⟩), .pointer (some ⟨w.heap.size, 0, none⟩), .int .u64 150] 274)).alloc (.cells #[.int .i64 n] 124))
    (by rw [World.cell?_alloc_at _ _ _ _ (by simp)]; rfl)
    (by rw [World.cell?_alloc_lt _ _ t (by simp; omega), World.cell?_alloc_lt _ _ t (by simp; omega), World.cell?_alloc_lt _ _ t (by simp; omega), World.cell?_alloc_lt _ _ t htl]; exact ht0)
    (by rw [World.frozen?_alloc_old _ _ t (by simp; omega), World.frozen?_alloc_old _ _ t (by simp; omega), World.frozen?_alloc_old _ _ t (by simp; omega), World.frozen?_alloc_old _ _ t (Nat.ne_of_lt htl)]; exact hf0)
  go_enter Tryz.func171, Tryz.ntmps171
  go_wp2
  refine wp_loop_rounds 1 ?_
  rw [rounds_succ]
  go_wp2
  go_ret
  exact ⟨rfl, rfl⟩

end Go.Proofs.YtgelojhpanbnaaaGreatDoor

namespace Go.Proofs.YtgelojhpanbnaaaGreatDoor
open Go.RowKit

def ErrT (w : World) : Prop := w.cell? ⟨1, 0, none⟩ = some (.iface 313 (.agg #[.pointer (some ⟨3, 35, none⟩)]))

theorem ErrT.pos {w : World} (h : ErrT w) : 1 < w.heap.size := by
  unfold ErrT at h
  rcases Nat.lt_or_ge 1 w.heap.size with h0 | h0
  · exact h0
  · simp [World.cell?, Array.getElem?_eq_none h0] at h

theorem ErrT.below {w w' : World} (h : ErrT w) (hb : Below w.heap.size w w') : ErrT w' := (hb.cell (p := ⟨1, 0, none⟩) h.pos).trans h

theorem ErrT.alloc {w : World} (h : ErrT w) (o : Obj) : ErrT (w.alloc o) := h.below ((Below.refl _ _).alloc (Nat.le_refl _) _)

theorem told_nil (w : World) :
    Calls Tryz.prog 99 #[.nilIface] w fun e w' => e = .returned (.int .i64 0) ∧ Below w.heap.size w w' := by
  go_enter Tryz.func99, Tryz.ntmps99
  go_wp2
  go_ret
  exact ⟨rfl, by first | exact Below.refl _ _ | exact (Below.refl _ _).alloc (Nat.le_refl _) _⟩

set_option maxHeartbeats 1000000 in
theorem told_no (n : Int) (w : World) (hw : ErrT w) :
    Calls Tryz.prog 99 #[.iface 124 (.int .i64 n)] w fun e w' => e = .returned (.int .i64 n) ∧ Below w.heap.size w w' := by
  have hg := hw.alloc (.cells #[.int .i64 0] 124)
  have ht : (w.alloc (.cells #[.int .i64 0] 124)).cell? ⟨w.heap.size, 0, none⟩ = some (.int .i64 0) := by simp
  have hf : (w.alloc (.cells #[.int .i64 0] 124)).frozen? ⟨w.heap.size, 0, none⟩ = false := by simp
  go_enter Tryz.func99, Tryz.ntmps99
  go_wp2_with fail
  refine (as_hit n _ (.int .i64 0) _ hg ht hf).mono ?_; rintro e w' ⟨rfl, rfl⟩
  go_wp2
  go_ret
  exact ⟨rfl, by repeat (first | exact Below.refl _ _ | refine Below.setCell ?_ (by simp) _ | refine Below.alloc ?_ (by first | (simp; done) | (simp; omega)) _)⟩

theorem error_nil (x : Int) (w : World) (b : Bool) (h : ((0 : Int) == x) = b) :
    Calls Tryz.prog 33 #[.nilIface, .int .i64 x] w fun e w' => e = .returned (.bool b) ∧ Below w.heap.size w w' := by
  go_enter Tryz.func33, Tryz.ntmps33
  go_wp2_with (go_at_call 99; refine (told_nil _).mono ?_; rintro e w' ⟨rfl, hb⟩)
  go_ret
  exact ⟨rfl, by assumption⟩

theorem error_any (c x : Int) (w : World) (hw : ErrT w) :
    Calls Tryz.prog 33 #[errV c, .int .i64 x] w fun e w' => e = .returned (.bool (c == x)) ∧ Below w.heap.size w w' := by
  by_cases h : c = 0
  · subst h
    exact error_nil x w _ rfl
  · rw [errV, if_neg h]
    go_enter Tryz.func33, Tryz.ntmps33
    go_wp2_with (go_at_call 99; refine (told_no c _ hw).mono ?_; rintro e w' ⟨rfl, hb⟩)
    go_ret
    exact ⟨rfl, by assumption⟩

theorem error_same (c : Int) (w : World) (hw : ErrT w) :
    Calls Tryz.prog 33 #[errV c, .int .i64 c] w fun e w' => e = .returned (.bool true) ∧ Below w.heap.size w w' := by
  refine (error_any c c w hw).mono ?_
  rintro e w' ⟨rfl, hb⟩
  exact ⟨by simp, hb⟩

end Go.Proofs.YtgelojhpanbnaaaGreatDoor

namespace Go.Proofs.YtgelojhpanbnaaaGreatDoor
open Go.ChangeShapes Go.WideShapes Go.ChangeAt Go.RowKit

theorem errOneRow : ((List.range 383).filter fun t => Tryz.prog.rowNamed t [101, 114, 114, 111, 114]) = [35] := by kernel_rfl

theorem errTypes : Tryz.prog.types.size = 383 := by kernel_rfl

theorem errT_of_laid {W : World} {l : List (String × DataW Unit)} (nm : String) (hg : Tryz.prog.globalNamed nm = some 1) (h : laidMetH Tryz.prog l W)
    (hx : (nm, Rows.laid_errors_errorType) ∈ l.filter fun x => x.2.handleName?.isSome) : ErrT W := by
  obtain ⟨_, hs⟩ := laidMetH_iff.1 h
  obtain ⟨name, u, ty, e1, e2, e3, e4, e5⟩ := hs _ hx
  have en : name = [101, 114, 114, 111, 114] := (Option.some.inj e1).symm
  subst en
  have eu : some u = some 313 := e2.symm.trans (by kernel_rfl)
  obtain rfl := Option.some.inj eu
  have hm : ty ∈ (List.range 383).filter fun t => Tryz.prog.rowNamed t [101, 114, 114, 111, 114] := List.mem_filter.2 ⟨List.mem_range.2 (by rw [← errTypes]; exact e3), e4⟩
  rw [errOneRow] at hm
  obtain rfl := List.mem_singleton.1 hm
  have hh : typeHandle Tryz.prog 35 = .pointer (some ⟨3, 35, none⟩) := by kernel_rfl
  rw [hh] at e5
  simpa [ErrT] using World.var?_cell hg e5 0

end Go.Proofs.YtgelojhpanbnaaaGreatDoor

namespace Go.Proofs.YtgelojhpanbnaaaGreatDoor

end Go.Proofs.YtgelojhpanbnaaaGreatDoor

namespace Go.Proofs.YtgelojhpanbnaaaGreatDoor
open Go.Joins Go.ChangeShapes Go.WideShapes Go.RowKit Go.Deep
set_option linter.unusedVariables false

section
variable {H : Type} {enc : TypeId × Value → H} {P : Program} {w : World} {base : Nat} {spare : Nat → Bool} {held : Bool}

theorem open_cells8d {t : TypeId} {f0 f1 f2 f3 f4 f5 f6 f7 : Field} {fuel : Nat} {c0 c1 c2 c3 c4 c5 c6 c7 : Value} {x : DataW H × List MemPlace} (hs : P.underlying t = some (.struct #[f0, f1, f2, f3, f4, f5, f6, f7])) (hone : oneCellFields P #[f0, f1, f2, f3, f4, f5, f6, f7] = true) (h : DataW.trod enc P w base spare held fuel t [c0, c1, c2, c3, c4, c5, c6, c7] = some x) :
    ∃ (y0 y1 y2 y3 y4 y5 y6 y7 : DataW H × List MemPlace) (n : Nat), x.1 = .agg [y0.1, y1.1, y2.1, y3.1, y4.1, y5.1, y6.1, y7.1] ∧ DataW.trod enc P w base spare held n f0.type [c0] = some y0 ∧ DataW.trod enc P w base spare held n f1.type [c1] = some y1 ∧ DataW.trod enc P w base spare held n f2.type [c2] = some y2 ∧ DataW.trod enc P w base spare held n f3.type [c3] = some y3 ∧ DataW.trod enc P w base spare held n f4.type [c4] = some y4 ∧ DataW.trod enc P w base spare held n f5.type [c5] = some y5 ∧ DataW.trod enc P w base spare held n f6.type [c6] = some y6 ∧ DataW.trod enc P w base spare held n f7.type [c7] = some y7 := by
  obtain ⟨xs, n, _, hx, _, hlen, hg⟩ := DataW.trod_struct hs h
  obtain ⟨o0, k0⟩ := hone_of hone 0 f0 rfl
  obtain ⟨o1, k1⟩ := hone_of hone 1 f1 rfl
  obtain ⟨o2, k2⟩ := hone_of hone 2 f2 rfl
  obtain ⟨o3, k3⟩ := hone_of hone 3 f3 rfl
  obtain ⟨o4, k4⟩ := hone_of hone 4 f4 rfl
  obtain ⟨o5, k5⟩ := hone_of hone 5 f5 rfl
  obtain ⟨o6, k6⟩ := hone_of hone 6 f6 rfl
  obtain ⟨o7, k7⟩ := hone_of hone 7 f7 rfl
  match xs, hlen with
  | [y0, y1, y2, y3, y4, y5, y6, y7], _ => exact ⟨y0, y1, y2, y3, y4, y5, y6, y7, n, by rw [hx]; rfl, by simpa [o0, k0] using hg 0 f0 rfl, by simpa [o1, k1] using hg 1 f1 rfl, by simpa [o2, k2] using hg 2 f2 rfl, by simpa [o3, k3] using hg 3 f3 rfl, by simpa [o4, k4] using hg 4 f4 rfl, by simpa [o5, k5] using hg 5 f5 rfl, by simpa [o6, k6] using hg 6 f6 rfl, by simpa [o7, k7] using hg 7 f7 rfl⟩

end

end Go.Proofs.YtgelojhpanbnaaaGreatDoor

namespace Go.Proofs.YtgelojhpanbnaaaGreatDoor
open Go.ChangeShapes Go.WideShapes Go.ChangeAt Go.RowKit

theorem progMay : Tryz.prog.mayEnter = true := by kernel_rfl

theorem progLaid : laidOutB Tryz.prog = true := by kernel_rfl

theorem progMaps : mapsRowed Tryz.prog = true := by kernel_rfl

theorem progPin : Tryz.pinned.checked.prog = Tryz.prog := by kernel_rfl

end Go.Proofs.YtgelojhpanbnaaaGreatDoor
