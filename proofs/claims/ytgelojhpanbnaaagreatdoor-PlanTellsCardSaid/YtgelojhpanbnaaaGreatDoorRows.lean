/-
  NARROWER THAN 'FOR EVERY INPUT', by the rows' own cells (each row's printed sentence says how): TopDays: laid · TopRings: laid · AlarmTells: laid · DeskHolds: laid · PlanTells: laid · DeskSnoozes: laid · DeskPlays: laid.
  DERIVED. THE GIVEN ROWS OF THIS SEAT. 7 by the template 'for every input the law returns true; each argument reads behind the call as it read before'; 0 by the template 'total and deterministic' (their statements: YtgelojhpanbnaaaGreatDoorTotals.lean).
  GIVEN WITH THE SEED: the statements are not yours to turn. If you find one false, say at which input.
  Laid BY PROGRAM, IN A SANDBOX (cutbox-rows.mjs): the forced cells as the released guide's own fill.sh prints them over the translation 7618c01c05db5aa1… (all of the seat's roots in one cut). By AI agents, Wed Nov 11 2026. No macro, syntax, notation, axiom, sorry.
-/
import Derived.Test.YtgelojhpanbnaaaGreatDoorChecked
import GoSem.Claim
import GoSem.ClaimJoined
import GoSem.ClaimMapViews
import Derived.JoinedTies
import Derived.KernelRfl
namespace Go.Proofs.YtgelojhpanbnaaaGreatDoor
/- THE CELL 'sum', in the pinned program and in every row, IS THE sha256 OF THE DUMP (.gsa) THAT YtgelojhpanbnaaaGreatDoorProg.lean LOADS. Nothing in Lean hashes anything: it is a label: what it is worth is what the hold of that sum in a sandbox is worth. -/
noncomputable def Tryz.pinned : Pinned := { name := "ytgelojhpanbnaaagreatdoor", sum := "7618c01c05db5aa10317a4c02489075255a6fc49ea4f62bfe1529e13acb5d29f", checked := Tryz.checked }
namespace Rows
def none {H : Type} : Left H := { results := [], args := [] }

/- WHAT THE LISTED PACKAGE-LEVEL VARIABLES READ AS WHEN THE CALL BEGINS. Each datum BY PROGRAM (the guide's laid-datum.mjs) off the statement by which the dump's own 'gosem.cut.vars' lays the variable. In a bare row this is a premise. The card (YtgelojhpanbnaaaGreatDoorCards.lean) ties it to the program's text. -/
def laid_chimework_day_months {H : Type} : DataW H := .agg [.lit (.int .i64 31), .lit (.int .i64 28), .lit (.int .i64 31), .lit (.int .i64 30), .lit (.int .i64 31), .lit (.int .i64 30), .lit (.int .i64 31), .lit (.int .i64 31), .lit (.int .i64 30), .lit (.int .i64 31), .lit (.int .i64 30), .lit (.int .i64 31)]
def laid_errors_errorType {H : Type} : DataW H := .iface "internal/reflectlite.rtype" (.agg [.ptr (.lit (.string [101, 114, 114, 111, 114]))])

/-- 'chimetop.TopDays': WHATEVER THE INPUT: true; the input reads as it did. -/
def topDaysSpec : ChangeSpec := { name := "topDays", fn := fun _ => fun
  | [d1, d2, d3, d4] => { results := [.lit (.bool true)], args := [d1, d2, d3, d4] }
  | _ => none }
def topDaysRow : OpenClaim := { program := "ytgelojhpanbnaaagreatdoor", sum := "7618c01c05db5aa10317a4c02489075255a6fc49ea4f62bfe1529e13acb5d29f", func := "chimework/chimetop.TopDays", spec := "topDays", inPlace := ["internal/bytealg.abigen_runtime_cmpstring"], unfollowed := true, recurses := true, named := ["chimework/day.months"], apart := false, laid := [("chimework/day.months", laid_chimework_day_months)] }
def TopDaysSaid : Prop := topDaysRow.holds Tryz.pinned (OpenSpec.ofChange topDaysSpec)

/-- ITS FALSE NEIGHBOUR: 'it returns false'. Refute it at one input. -/
def topDaysWrong : ChangeSpec := { name := "topDays", fn := fun _ => fun
  | [d1, d2, d3, d4] => { results := [.lit (.bool false)], args := [d1, d2, d3, d4] }
  | _ => none }
def TopDaysWrongFalsely : Prop := topDaysRow.holds Tryz.pinned (OpenSpec.ofChange topDaysWrong)

/-- 'chimetop.TopRings': WHATEVER THE INPUT: true; the input reads as it did. -/
def topRingsSpec : ChangeSpec := { name := "topRings", fn := fun _ => fun
  | [d1, d2, d3, d4] => { results := [.lit (.bool true)], args := [d1, d2, d3, d4] }
  | _ => none }
def topRingsRow : OpenClaim := { program := "ytgelojhpanbnaaagreatdoor", sum := "7618c01c05db5aa10317a4c02489075255a6fc49ea4f62bfe1529e13acb5d29f", func := "chimework/chimetop.TopRings", spec := "topRings", inPlace := ["internal/bytealg.abigen_runtime_cmpstring"], unfollowed := true, recurses := true, named := ["chimework/day.months"], apart := false, laid := [("chimework/day.months", laid_chimework_day_months)] }
def TopRingsSaid : Prop := topRingsRow.holds Tryz.pinned (OpenSpec.ofChange topRingsSpec)

/-- ITS FALSE NEIGHBOUR: 'it returns false'. Refute it at one input. -/
def topRingsWrong : ChangeSpec := { name := "topRings", fn := fun _ => fun
  | [d1, d2, d3, d4] => { results := [.lit (.bool false)], args := [d1, d2, d3, d4] }
  | _ => none }
def TopRingsWrongFalsely : Prop := topRingsRow.holds Tryz.pinned (OpenSpec.ofChange topRingsWrong)

/-- 'chimelaw2.AlarmTells': WHATEVER THE INPUT: true; the input reads as it did. -/
def alarmTellsSpec : ChangeSpec := { name := "alarmTells", fn := fun _ => fun
  | [d1, d2, d3, d4, d5, d6] => { results := [.lit (.bool true)], args := [d1, d2, d3, d4, d5, d6] }
  | _ => none }
def alarmTellsRow : OpenClaim := { program := "ytgelojhpanbnaaagreatdoor", sum := "7618c01c05db5aa10317a4c02489075255a6fc49ea4f62bfe1529e13acb5d29f", func := "chimework/chimelaw2.AlarmTells", spec := "alarmTells", inPlace := ["internal/bytealg.abigen_runtime_cmpstring", "internal/reflectlite.ValueOf", "(internal/reflectlite.Value).Type", "(internal/reflectlite.Value).IsNil", "internal/reflectlite.TypeOf", "(internal/reflectlite.Value).Elem", "(internal/reflectlite.Value).Set"], unfollowed := true, recurses := true, named := ["chimework/day.months", "errors.errorType"], apart := false, laid := [("chimework/day.months", laid_chimework_day_months), ("errors.errorType", laid_errors_errorType)] }
def AlarmTellsSaid : Prop := alarmTellsRow.holds Tryz.pinned (OpenSpec.ofChange alarmTellsSpec)

/-- ITS FALSE NEIGHBOUR: 'it returns false'. Refute it at one input. -/
def alarmTellsWrong : ChangeSpec := { name := "alarmTells", fn := fun _ => fun
  | [d1, d2, d3, d4, d5, d6] => { results := [.lit (.bool false)], args := [d1, d2, d3, d4, d5, d6] }
  | _ => none }
def AlarmTellsWrongFalsely : Prop := alarmTellsRow.holds Tryz.pinned (OpenSpec.ofChange alarmTellsWrong)

/-- 'chimelaw3.DeskHolds': WHATEVER THE INPUT: true; the input reads as it did. -/
def deskHoldsSpec : ChangeSpec := { name := "deskHolds", fn := fun _ => fun
  | [d1, d2, d3, d4, d5] => { results := [.lit (.bool true)], args := [d1, d2, d3, d4, d5] }
  | _ => none }
def deskHoldsRow : OpenClaim := { program := "ytgelojhpanbnaaagreatdoor", sum := "7618c01c05db5aa10317a4c02489075255a6fc49ea4f62bfe1529e13acb5d29f", func := "chimework/chimelaw3.DeskHolds", spec := "deskHolds", inPlace := ["internal/bytealg.abigen_runtime_cmpstring"], unfollowed := true, recurses := true, named := ["chimework/day.months"], apart := false, laid := [("chimework/day.months", laid_chimework_day_months)] }
def DeskHoldsSaid : Prop := deskHoldsRow.holds Tryz.pinned (OpenSpec.ofChange deskHoldsSpec)

/-- ITS FALSE NEIGHBOUR: 'it returns false'. Refute it at one input. -/
def deskHoldsWrong : ChangeSpec := { name := "deskHolds", fn := fun _ => fun
  | [d1, d2, d3, d4, d5] => { results := [.lit (.bool false)], args := [d1, d2, d3, d4, d5] }
  | _ => none }
def DeskHoldsWrongFalsely : Prop := deskHoldsRow.holds Tryz.pinned (OpenSpec.ofChange deskHoldsWrong)

/-- 'chimelaw2.PlanTells': WHATEVER THE INPUT: true; the input reads as it did. -/
def planTellsSpec : ChangeSpec := { name := "planTells", fn := fun _ => fun
  | [d1, d2, d3, d4, d5, d6, d7, d8, d9] => { results := [.lit (.bool true)], args := [d1, d2, d3, d4, d5, d6, d7, d8, d9] }
  | _ => none }
def planTellsRow : OpenClaim := { program := "ytgelojhpanbnaaagreatdoor", sum := "7618c01c05db5aa10317a4c02489075255a6fc49ea4f62bfe1529e13acb5d29f", func := "chimework/chimelaw2.PlanTells", spec := "planTells", inPlace := ["internal/reflectlite.ValueOf", "(internal/reflectlite.Value).Type", "(internal/reflectlite.Value).IsNil", "internal/reflectlite.TypeOf", "(internal/reflectlite.Value).Elem", "(internal/reflectlite.Value).Set"], unfollowed := true, recurses := true, named := ["chimework/day.months", "errors.errorType"], apart := false, laid := [("chimework/day.months", laid_chimework_day_months), ("errors.errorType", laid_errors_errorType)] }
def PlanTellsSaid : Prop := planTellsRow.holds Tryz.pinned (OpenSpec.ofChange planTellsSpec)

/-- ITS FALSE NEIGHBOUR: 'it returns false'. Refute it at one input. -/
def planTellsWrong : ChangeSpec := { name := "planTells", fn := fun _ => fun
  | [d1, d2, d3, d4, d5, d6, d7, d8, d9] => { results := [.lit (.bool false)], args := [d1, d2, d3, d4, d5, d6, d7, d8, d9] }
  | _ => none }
def PlanTellsWrongFalsely : Prop := planTellsRow.holds Tryz.pinned (OpenSpec.ofChange planTellsWrong)

/-- 'chimelaw3.DeskSnoozes': WHATEVER THE INPUT: true; the input reads as it did. -/
def deskSnoozesSpec : ChangeSpec := { name := "deskSnoozes", fn := fun _ => fun
  | [d1, d2, d3, d4, d5] => { results := [.lit (.bool true)], args := [d1, d2, d3, d4, d5] }
  | _ => none }
def deskSnoozesRow : OpenClaim := { program := "ytgelojhpanbnaaagreatdoor", sum := "7618c01c05db5aa10317a4c02489075255a6fc49ea4f62bfe1529e13acb5d29f", func := "chimework/chimelaw3.DeskSnoozes", spec := "deskSnoozes", inPlace := ["internal/bytealg.abigen_runtime_cmpstring", "internal/reflectlite.ValueOf", "(internal/reflectlite.Value).Type", "(internal/reflectlite.Value).IsNil", "internal/reflectlite.TypeOf", "(internal/reflectlite.Value).Elem", "(internal/reflectlite.Value).Set"], unfollowed := true, recurses := true, named := ["chimework/day.months", "errors.errorType"], apart := false, laid := [("chimework/day.months", laid_chimework_day_months), ("errors.errorType", laid_errors_errorType)] }
def DeskSnoozesSaid : Prop := deskSnoozesRow.holds Tryz.pinned (OpenSpec.ofChange deskSnoozesSpec)

/-- ITS FALSE NEIGHBOUR: 'it returns false'. Refute it at one input. -/
def deskSnoozesWrong : ChangeSpec := { name := "deskSnoozes", fn := fun _ => fun
  | [d1, d2, d3, d4, d5] => { results := [.lit (.bool false)], args := [d1, d2, d3, d4, d5] }
  | _ => none }
def DeskSnoozesWrongFalsely : Prop := deskSnoozesRow.holds Tryz.pinned (OpenSpec.ofChange deskSnoozesWrong)

/-- 'chimelaw3.DeskPlays': WHATEVER THE INPUT: true; the input reads as it did. -/
def deskPlaysSpec : ChangeSpec := { name := "deskPlays", fn := fun _ => fun
  | [d1, d2, d3] => { results := [.lit (.bool true)], args := [d1, d2, d3] }
  | _ => none }
def deskPlaysRow : OpenClaim := { program := "ytgelojhpanbnaaagreatdoor", sum := "7618c01c05db5aa10317a4c02489075255a6fc49ea4f62bfe1529e13acb5d29f", func := "chimework/chimelaw3.DeskPlays", spec := "deskPlays", inPlace := ["internal/reflectlite.ValueOf", "(internal/reflectlite.Value).Type", "(internal/reflectlite.Value).IsNil", "internal/reflectlite.TypeOf", "(internal/reflectlite.Value).Elem", "(internal/reflectlite.Value).Set", "internal/bytealg.abigen_runtime_cmpstring"], unfollowed := true, recurses := true, named := ["errors.errorType", "chimework/day.months"], apart := false, laid := [("chimework/day.months", laid_chimework_day_months), ("errors.errorType", laid_errors_errorType)] }
def DeskPlaysSaid : Prop := deskPlaysRow.holds Tryz.pinned (OpenSpec.ofChange deskPlaysSpec)

/-- ITS FALSE NEIGHBOUR: 'it returns false'. Refute it at one input. -/
def deskPlaysWrong : ChangeSpec := { name := "deskPlays", fn := fun _ => fun
  | [d1, d2, d3] => { results := [.lit (.bool false)], args := [d1, d2, d3] }
  | _ => none }
def DeskPlaysWrongFalsely : Prop := deskPlaysRow.holds Tryz.pinned (OpenSpec.ofChange deskPlaysWrong)

/- THE SECOND FORM. 'bulk': how many values and letters a reading holds, each counted each time it is reached (what is shared counts as often as it is met; a slice's spare places count too). A statement '..UptoSaid' is the law's where the arguments, and the package variables that the reading takes, are together of bulk at most 1048576: NARROWER than '..Said'. Prove '..Said' where nothing that the law and all that it calls make is longer than what came in: it says more and counts as full. Else prove '..UptoSaid'. A law counts once. -/
mutual
def uptoBulk {H : Type} : DataW H → Nat
  | .lit (.string bytes) => bytes.length + 1
  | .lit _ => 1
  | .nil => 1
  | .ptr d => uptoBulk d + 1
  | .slice elems spare => uptoBulkAll elems + uptoBulkAll spare + 1
  | .agg parts => uptoBulkAll parts + 1
  | .iface _ d => uptoBulk d + 1
  | .map entries => uptoBulkEntries entries + 1
  | .held _ => 1
def uptoBulkAll {H : Type} : List (DataW H) → Nat
  | [] => 0
  | d :: r => uptoBulk d + uptoBulkAll r
def uptoBulkEntries {H : Type} : List (Lit × DataW H) → Nat
  | [] => 0
  | x :: r => uptoBulkEntry x + uptoBulkEntries r
def uptoBulkEntry {H : Type} : Lit × DataW H → Nat
  | (.string bytes, d) => bytes.length + uptoBulk d + 1
  | (_, d) => uptoBulk d + 1
 end
def uptoSmall : (H : Type) → List (DataW H) → Bool := fun _ ds => decide (uptoBulkAll ds ≤ 1048576)
def OpenSpec.upto (s : _root_.Go.ChangeSpec) : _root_.Go.OpenSpec := { _root_.Go.OpenSpec.ofChange s with cond := some uptoSmall }

/-- 'chimetop.TopDays', WHERE WHAT IT READS IS OF BULK AT MOST 1048576: true; the input reads as it did. -/
def topDaysUptoRow : OpenClaim := { program := "ytgelojhpanbnaaagreatdoor", sum := "7618c01c05db5aa10317a4c02489075255a6fc49ea4f62bfe1529e13acb5d29f", func := "chimework/chimetop.TopDays", spec := "topDays", inPlace := ["internal/bytealg.abigen_runtime_cmpstring"], unfollowed := true, recurses := true, named := ["chimework/day.months"], apart := false, laid := [("chimework/day.months", laid_chimework_day_months)], narrowed := true }
def TopDaysUptoSaid : Prop := topDaysUptoRow.holds Tryz.pinned (OpenSpec.upto topDaysSpec)

/-- 'chimetop.TopRings', WHERE WHAT IT READS IS OF BULK AT MOST 1048576: true; the input reads as it did. -/
def topRingsUptoRow : OpenClaim := { program := "ytgelojhpanbnaaagreatdoor", sum := "7618c01c05db5aa10317a4c02489075255a6fc49ea4f62bfe1529e13acb5d29f", func := "chimework/chimetop.TopRings", spec := "topRings", inPlace := ["internal/bytealg.abigen_runtime_cmpstring"], unfollowed := true, recurses := true, named := ["chimework/day.months"], apart := false, laid := [("chimework/day.months", laid_chimework_day_months)], narrowed := true }
def TopRingsUptoSaid : Prop := topRingsUptoRow.holds Tryz.pinned (OpenSpec.upto topRingsSpec)

/-- 'chimelaw2.AlarmTells', WHERE WHAT IT READS IS OF BULK AT MOST 1048576: true; the input reads as it did. -/
def alarmTellsUptoRow : OpenClaim := { program := "ytgelojhpanbnaaagreatdoor", sum := "7618c01c05db5aa10317a4c02489075255a6fc49ea4f62bfe1529e13acb5d29f", func := "chimework/chimelaw2.AlarmTells", spec := "alarmTells", inPlace := ["internal/bytealg.abigen_runtime_cmpstring", "internal/reflectlite.ValueOf", "(internal/reflectlite.Value).Type", "(internal/reflectlite.Value).IsNil", "internal/reflectlite.TypeOf", "(internal/reflectlite.Value).Elem", "(internal/reflectlite.Value).Set"], unfollowed := true, recurses := true, named := ["chimework/day.months", "errors.errorType"], apart := false, laid := [("chimework/day.months", laid_chimework_day_months), ("errors.errorType", laid_errors_errorType)], narrowed := true }
def AlarmTellsUptoSaid : Prop := alarmTellsUptoRow.holds Tryz.pinned (OpenSpec.upto alarmTellsSpec)

/-- 'chimelaw3.DeskHolds', WHERE WHAT IT READS IS OF BULK AT MOST 1048576: true; the input reads as it did. -/
def deskHoldsUptoRow : OpenClaim := { program := "ytgelojhpanbnaaagreatdoor", sum := "7618c01c05db5aa10317a4c02489075255a6fc49ea4f62bfe1529e13acb5d29f", func := "chimework/chimelaw3.DeskHolds", spec := "deskHolds", inPlace := ["internal/bytealg.abigen_runtime_cmpstring"], unfollowed := true, recurses := true, named := ["chimework/day.months"], apart := false, laid := [("chimework/day.months", laid_chimework_day_months)], narrowed := true }
def DeskHoldsUptoSaid : Prop := deskHoldsUptoRow.holds Tryz.pinned (OpenSpec.upto deskHoldsSpec)

/-- 'chimelaw2.PlanTells', WHERE WHAT IT READS IS OF BULK AT MOST 1048576: true; the input reads as it did. -/
def planTellsUptoRow : OpenClaim := { program := "ytgelojhpanbnaaagreatdoor", sum := "7618c01c05db5aa10317a4c02489075255a6fc49ea4f62bfe1529e13acb5d29f", func := "chimework/chimelaw2.PlanTells", spec := "planTells", inPlace := ["internal/reflectlite.ValueOf", "(internal/reflectlite.Value).Type", "(internal/reflectlite.Value).IsNil", "internal/reflectlite.TypeOf", "(internal/reflectlite.Value).Elem", "(internal/reflectlite.Value).Set"], unfollowed := true, recurses := true, named := ["chimework/day.months", "errors.errorType"], apart := false, laid := [("chimework/day.months", laid_chimework_day_months), ("errors.errorType", laid_errors_errorType)], narrowed := true }
def PlanTellsUptoSaid : Prop := planTellsUptoRow.holds Tryz.pinned (OpenSpec.upto planTellsSpec)

/-- 'chimelaw3.DeskSnoozes', WHERE WHAT IT READS IS OF BULK AT MOST 1048576: true; the input reads as it did. -/
def deskSnoozesUptoRow : OpenClaim := { program := "ytgelojhpanbnaaagreatdoor", sum := "7618c01c05db5aa10317a4c02489075255a6fc49ea4f62bfe1529e13acb5d29f", func := "chimework/chimelaw3.DeskSnoozes", spec := "deskSnoozes", inPlace := ["internal/bytealg.abigen_runtime_cmpstring", "internal/reflectlite.ValueOf", "(internal/reflectlite.Value).Type", "(internal/reflectlite.Value).IsNil", "internal/reflectlite.TypeOf", "(internal/reflectlite.Value).Elem", "(internal/reflectlite.Value).Set"], unfollowed := true, recurses := true, named := ["chimework/day.months", "errors.errorType"], apart := false, laid := [("chimework/day.months", laid_chimework_day_months), ("errors.errorType", laid_errors_errorType)], narrowed := true }
def DeskSnoozesUptoSaid : Prop := deskSnoozesUptoRow.holds Tryz.pinned (OpenSpec.upto deskSnoozesSpec)

/-- 'chimelaw3.DeskPlays', WHERE WHAT IT READS IS OF BULK AT MOST 1048576: true; the input reads as it did. -/
def deskPlaysUptoRow : OpenClaim := { program := "ytgelojhpanbnaaagreatdoor", sum := "7618c01c05db5aa10317a4c02489075255a6fc49ea4f62bfe1529e13acb5d29f", func := "chimework/chimelaw3.DeskPlays", spec := "deskPlays", inPlace := ["internal/reflectlite.ValueOf", "(internal/reflectlite.Value).Type", "(internal/reflectlite.Value).IsNil", "internal/reflectlite.TypeOf", "(internal/reflectlite.Value).Elem", "(internal/reflectlite.Value).Set", "internal/bytealg.abigen_runtime_cmpstring"], unfollowed := true, recurses := true, named := ["errors.errorType", "chimework/day.months"], apart := false, laid := [("chimework/day.months", laid_chimework_day_months), ("errors.errorType", laid_errors_errorType)], narrowed := true }
def DeskPlaysUptoSaid : Prop := deskPlaysUptoRow.holds Tryz.pinned (OpenSpec.upto deskPlaysSpec)

end Rows
end Go.Proofs.YtgelojhpanbnaaaGreatDoor
