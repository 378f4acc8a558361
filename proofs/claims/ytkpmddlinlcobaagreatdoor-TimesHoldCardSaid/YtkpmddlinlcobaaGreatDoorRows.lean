/-
  NARROWER THAN 'FOR EVERY INPUT', by the rows' own cells (each row's printed sentence says how): EventTells: laid · TimesAhead: laid · TimesHold: laid · TimesTells: laid · AlarmCounts: laid · AlarmHolds: laid · AlarmTells: laid · PlanAlone: laid · PlanFits: laid · PlanTells: laid · TopDays: laid.
  DERIVED. THE GIVEN ROWS OF THIS SEAT. 11 by the template 'for every input the law returns true; each argument reads behind the call as it read before'; 0 by the template 'total and deterministic' (their statements: YtkpmddlinlcobaaGreatDoorTotals.lean).
  GIVEN WITH THE SEED: the statements are not yours to turn. If you find one false, say at which input.
  Laid BY PROGRAM, IN A SANDBOX (cutbox-rows.mjs): the forced cells as the released guide's own fill.sh prints them over the translation 87add541729cb09c… (all of the seat's roots in one cut). By AI agents, Wed Nov 11 2026. No macro, syntax, notation, axiom, sorry.
-/
import Derived.Test.YtkpmddlinlcobaaGreatDoorChecked
import GoSem.Claim
import GoSem.ClaimJoined
import GoSem.ClaimMapViews
import Derived.JoinedTies
import Derived.KernelRfl
namespace Go.Proofs.YtkpmddlinlcobaaGreatDoor
/- THE CELL 'sum', in the pinned program and in every row, IS THE sha256 OF THE DUMP (.gsa) THAT YtkpmddlinlcobaaGreatDoorProg.lean LOADS. Nothing in Lean hashes anything: it is a label: what it is worth is what the hold of that sum in a sandbox is worth. -/
noncomputable def Tryz.pinned : Pinned := { name := "ytkpmddlinlcobaagreatdoor", sum := "87add541729cb09c751187948458eef386b91106c9ce9ed1797d6092c7c59069", checked := Tryz.checked }
namespace Rows
def none {H : Type} : Left H := { results := [], args := [] }

/- WHAT THE LISTED PACKAGE-LEVEL VARIABLES READ AS WHEN THE CALL BEGINS. Each datum BY PROGRAM (the guide's laid-datum.mjs) off the statement by which the dump's own 'gosem.cut.vars' lays the variable. In a bare row this is a premise. The card (YtkpmddlinlcobaaGreatDoorCards.lean) ties it to the program's text. -/
def laid_chimework_day_months {H : Type} : DataW H := .agg [.lit (.int .i64 31), .lit (.int .i64 28), .lit (.int .i64 31), .lit (.int .i64 30), .lit (.int .i64 31), .lit (.int .i64 30), .lit (.int .i64 31), .lit (.int .i64 31), .lit (.int .i64 30), .lit (.int .i64 31), .lit (.int .i64 30), .lit (.int .i64 31)]
def laid_errors_errorType {H : Type} : DataW H := .iface "internal/reflectlite.rtype" (.agg [.ptr (.lit (.string [101, 114, 114, 111, 114]))])

/-- 'chimelaw2.EventTells': WHATEVER THE INPUT: true; the input reads as it did. -/
def eventTellsSpec : ChangeSpec := { name := "eventTells", fn := fun _ => fun
  | [d1, d2, d3, d4, d5] => { results := [.lit (.bool true)], args := [d1, d2, d3, d4, d5] }
  | _ => none }
def eventTellsRow : OpenClaim := { program := "ytkpmddlinlcobaagreatdoor", sum := "87add541729cb09c751187948458eef386b91106c9ce9ed1797d6092c7c59069", func := "chimework/chimelaw2.EventTells", spec := "eventTells", inPlace := ["internal/reflectlite.ValueOf", "(internal/reflectlite.Value).Type", "(internal/reflectlite.Value).IsNil", "internal/reflectlite.TypeOf", "(internal/reflectlite.Value).Elem", "(internal/reflectlite.Value).Set"], unfollowed := true, recurses := true, named := ["errors.errorType", "chimework/day.months"], apart := false, laid := [("chimework/day.months", laid_chimework_day_months), ("errors.errorType", laid_errors_errorType)] }
def EventTellsSaid : Prop := eventTellsRow.holds Tryz.pinned (OpenSpec.ofChange eventTellsSpec)

/-- ITS FALSE NEIGHBOUR: 'it returns false'. Refute it at one input. -/
def eventTellsWrong : ChangeSpec := { name := "eventTells", fn := fun _ => fun
  | [d1, d2, d3, d4, d5] => { results := [.lit (.bool false)], args := [d1, d2, d3, d4, d5] }
  | _ => none }
def EventTellsWrongFalsely : Prop := eventTellsRow.holds Tryz.pinned (OpenSpec.ofChange eventTellsWrong)

/-- 'chimelaw4.TimesAhead': WHATEVER THE INPUT: true; the input reads as it did. -/
def timesAheadSpec : ChangeSpec := { name := "timesAhead", fn := fun _ => fun
  | [d1, d2, d3, d4, d5] => { results := [.lit (.bool true)], args := [d1, d2, d3, d4, d5] }
  | _ => none }
def timesAheadRow : OpenClaim := { program := "ytkpmddlinlcobaagreatdoor", sum := "87add541729cb09c751187948458eef386b91106c9ce9ed1797d6092c7c59069", func := "chimework/chimelaw4.TimesAhead", spec := "timesAhead", unfollowed := true, recurses := true, named := ["chimework/day.months"], apart := false, laid := [("chimework/day.months", laid_chimework_day_months)] }
def TimesAheadSaid : Prop := timesAheadRow.holds Tryz.pinned (OpenSpec.ofChange timesAheadSpec)

/-- ITS FALSE NEIGHBOUR: 'it returns false'. Refute it at one input. -/
def timesAheadWrong : ChangeSpec := { name := "timesAhead", fn := fun _ => fun
  | [d1, d2, d3, d4, d5] => { results := [.lit (.bool false)], args := [d1, d2, d3, d4, d5] }
  | _ => none }
def TimesAheadWrongFalsely : Prop := timesAheadRow.holds Tryz.pinned (OpenSpec.ofChange timesAheadWrong)

/-- 'chimelaw2.TimesHold': WHATEVER THE INPUT: true; the input reads as it did. -/
def timesHoldSpec : ChangeSpec := { name := "timesHold", fn := fun _ => fun
  | [d1, d2, d3, d4, d5] => { results := [.lit (.bool true)], args := [d1, d2, d3, d4, d5] }
  | _ => none }
def timesHoldRow : OpenClaim := { program := "ytkpmddlinlcobaagreatdoor", sum := "87add541729cb09c751187948458eef386b91106c9ce9ed1797d6092c7c59069", func := "chimework/chimelaw2.TimesHold", spec := "timesHold", unfollowed := true, recurses := true, named := ["chimework/day.months"], apart := false, laid := [("chimework/day.months", laid_chimework_day_months)] }
def TimesHoldSaid : Prop := timesHoldRow.holds Tryz.pinned (OpenSpec.ofChange timesHoldSpec)

/-- ITS FALSE NEIGHBOUR: 'it returns false'. Refute it at one input. -/
def timesHoldWrong : ChangeSpec := { name := "timesHold", fn := fun _ => fun
  | [d1, d2, d3, d4, d5] => { results := [.lit (.bool false)], args := [d1, d2, d3, d4, d5] }
  | _ => none }
def TimesHoldWrongFalsely : Prop := timesHoldRow.holds Tryz.pinned (OpenSpec.ofChange timesHoldWrong)

/-- 'chimelaw2.TimesTells': WHATEVER THE INPUT: true; the input reads as it did. -/
def timesTellsSpec : ChangeSpec := { name := "timesTells", fn := fun _ => fun
  | [d1, d2, d3, d4] => { results := [.lit (.bool true)], args := [d1, d2, d3, d4] }
  | _ => none }
def timesTellsRow : OpenClaim := { program := "ytkpmddlinlcobaagreatdoor", sum := "87add541729cb09c751187948458eef386b91106c9ce9ed1797d6092c7c59069", func := "chimework/chimelaw2.TimesTells", spec := "timesTells", inPlace := ["internal/reflectlite.ValueOf", "(internal/reflectlite.Value).Type", "(internal/reflectlite.Value).IsNil", "internal/reflectlite.TypeOf", "(internal/reflectlite.Value).Elem", "(internal/reflectlite.Value).Set"], unfollowed := true, recurses := true, named := ["chimework/day.months", "errors.errorType"], apart := false, laid := [("chimework/day.months", laid_chimework_day_months), ("errors.errorType", laid_errors_errorType)] }
def TimesTellsSaid : Prop := timesTellsRow.holds Tryz.pinned (OpenSpec.ofChange timesTellsSpec)

/-- ITS FALSE NEIGHBOUR: 'it returns false'. Refute it at one input. -/
def timesTellsWrong : ChangeSpec := { name := "timesTells", fn := fun _ => fun
  | [d1, d2, d3, d4] => { results := [.lit (.bool false)], args := [d1, d2, d3, d4] }
  | _ => none }
def TimesTellsWrongFalsely : Prop := timesTellsRow.holds Tryz.pinned (OpenSpec.ofChange timesTellsWrong)

/-- 'chimelaw4.AlarmCounts': WHATEVER THE INPUT: true; the input reads as it did. -/
def alarmCountsSpec : ChangeSpec := { name := "alarmCounts", fn := fun _ => fun
  | [d1, d2] => { results := [.lit (.bool true)], args := [d1, d2] }
  | _ => none }
def alarmCountsRow : OpenClaim := { program := "ytkpmddlinlcobaagreatdoor", sum := "87add541729cb09c751187948458eef386b91106c9ce9ed1797d6092c7c59069", func := "chimework/chimelaw4.AlarmCounts", spec := "alarmCounts", inPlace := ["internal/bytealg.abigen_runtime_cmpstring"], unfollowed := true, recurses := true, named := ["chimework/day.months"], apart := false, laid := [("chimework/day.months", laid_chimework_day_months)] }
def AlarmCountsSaid : Prop := alarmCountsRow.holds Tryz.pinned (OpenSpec.ofChange alarmCountsSpec)

/-- ITS FALSE NEIGHBOUR: 'it returns false'. Refute it at one input. -/
def alarmCountsWrong : ChangeSpec := { name := "alarmCounts", fn := fun _ => fun
  | [d1, d2] => { results := [.lit (.bool false)], args := [d1, d2] }
  | _ => none }
def AlarmCountsWrongFalsely : Prop := alarmCountsRow.holds Tryz.pinned (OpenSpec.ofChange alarmCountsWrong)

/-- 'chimelaw2.AlarmHolds': WHATEVER THE INPUT: true; the input reads as it did. -/
def alarmHoldsSpec : ChangeSpec := { name := "alarmHolds", fn := fun _ => fun
  | [d1, d2, d3, d4, d5] => { results := [.lit (.bool true)], args := [d1, d2, d3, d4, d5] }
  | _ => none }
def alarmHoldsRow : OpenClaim := { program := "ytkpmddlinlcobaagreatdoor", sum := "87add541729cb09c751187948458eef386b91106c9ce9ed1797d6092c7c59069", func := "chimework/chimelaw2.AlarmHolds", spec := "alarmHolds", inPlace := ["internal/bytealg.abigen_runtime_cmpstring"], unfollowed := true, recurses := true, named := ["chimework/day.months"], apart := false, laid := [("chimework/day.months", laid_chimework_day_months)] }
def AlarmHoldsSaid : Prop := alarmHoldsRow.holds Tryz.pinned (OpenSpec.ofChange alarmHoldsSpec)

/-- ITS FALSE NEIGHBOUR: 'it returns false'. Refute it at one input. -/
def alarmHoldsWrong : ChangeSpec := { name := "alarmHolds", fn := fun _ => fun
  | [d1, d2, d3, d4, d5] => { results := [.lit (.bool false)], args := [d1, d2, d3, d4, d5] }
  | _ => none }
def AlarmHoldsWrongFalsely : Prop := alarmHoldsRow.holds Tryz.pinned (OpenSpec.ofChange alarmHoldsWrong)

/-- 'chimelaw2.AlarmTells': WHATEVER THE INPUT: true; the input reads as it did. -/
def alarmTellsSpec : ChangeSpec := { name := "alarmTells", fn := fun _ => fun
  | [d1, d2, d3, d4, d5, d6] => { results := [.lit (.bool true)], args := [d1, d2, d3, d4, d5, d6] }
  | _ => none }
def alarmTellsRow : OpenClaim := { program := "ytkpmddlinlcobaagreatdoor", sum := "87add541729cb09c751187948458eef386b91106c9ce9ed1797d6092c7c59069", func := "chimework/chimelaw2.AlarmTells", spec := "alarmTells", inPlace := ["internal/bytealg.abigen_runtime_cmpstring", "internal/reflectlite.ValueOf", "(internal/reflectlite.Value).Type", "(internal/reflectlite.Value).IsNil", "internal/reflectlite.TypeOf", "(internal/reflectlite.Value).Elem", "(internal/reflectlite.Value).Set"], unfollowed := true, recurses := true, named := ["chimework/day.months", "errors.errorType"], apart := false, laid := [("chimework/day.months", laid_chimework_day_months), ("errors.errorType", laid_errors_errorType)] }
def AlarmTellsSaid : Prop := alarmTellsRow.holds Tryz.pinned (OpenSpec.ofChange alarmTellsSpec)

/-- ITS FALSE NEIGHBOUR: 'it returns false'. Refute it at one input. -/
def alarmTellsWrong : ChangeSpec := { name := "alarmTells", fn := fun _ => fun
  | [d1, d2, d3, d4, d5, d6] => { results := [.lit (.bool false)], args := [d1, d2, d3, d4, d5, d6] }
  | _ => none }
def AlarmTellsWrongFalsely : Prop := alarmTellsRow.holds Tryz.pinned (OpenSpec.ofChange alarmTellsWrong)

/-- 'chimelaw4.PlanAlone': WHATEVER THE INPUT: true; the input reads as it did. -/
def planAloneSpec : ChangeSpec := { name := "planAlone", fn := fun _ => fun
  | [d1, d2, d3, d4] => { results := [.lit (.bool true)], args := [d1, d2, d3, d4] }
  | _ => none }
def planAloneRow : OpenClaim := { program := "ytkpmddlinlcobaagreatdoor", sum := "87add541729cb09c751187948458eef386b91106c9ce9ed1797d6092c7c59069", func := "chimework/chimelaw4.PlanAlone", spec := "planAlone", unfollowed := true, recurses := true, named := ["chimework/day.months"], apart := false, laid := [("chimework/day.months", laid_chimework_day_months)] }
def PlanAloneSaid : Prop := planAloneRow.holds Tryz.pinned (OpenSpec.ofChange planAloneSpec)

/-- ITS FALSE NEIGHBOUR: 'it returns false'. Refute it at one input. -/
def planAloneWrong : ChangeSpec := { name := "planAlone", fn := fun _ => fun
  | [d1, d2, d3, d4] => { results := [.lit (.bool false)], args := [d1, d2, d3, d4] }
  | _ => none }
def PlanAloneWrongFalsely : Prop := planAloneRow.holds Tryz.pinned (OpenSpec.ofChange planAloneWrong)

/-- 'chimelaw2.PlanFits': WHATEVER THE INPUT: true; the input reads as it did. -/
def planFitsSpec : ChangeSpec := { name := "planFits", fn := fun _ => fun
  | [d1, d2, d3, d4, d5, d6, d7] => { results := [.lit (.bool true)], args := [d1, d2, d3, d4, d5, d6, d7] }
  | _ => none }
def planFitsRow : OpenClaim := { program := "ytkpmddlinlcobaagreatdoor", sum := "87add541729cb09c751187948458eef386b91106c9ce9ed1797d6092c7c59069", func := "chimework/chimelaw2.PlanFits", spec := "planFits", unfollowed := true, recurses := true, named := ["chimework/day.months"], apart := false, laid := [("chimework/day.months", laid_chimework_day_months)] }
def PlanFitsSaid : Prop := planFitsRow.holds Tryz.pinned (OpenSpec.ofChange planFitsSpec)

/-- ITS FALSE NEIGHBOUR: 'it returns false'. Refute it at one input. -/
def planFitsWrong : ChangeSpec := { name := "planFits", fn := fun _ => fun
  | [d1, d2, d3, d4, d5, d6, d7] => { results := [.lit (.bool false)], args := [d1, d2, d3, d4, d5, d6, d7] }
  | _ => none }
def PlanFitsWrongFalsely : Prop := planFitsRow.holds Tryz.pinned (OpenSpec.ofChange planFitsWrong)

/-- 'chimelaw2.PlanTells': WHATEVER THE INPUT: true; the input reads as it did. -/
def planTellsSpec : ChangeSpec := { name := "planTells", fn := fun _ => fun
  | [d1, d2, d3, d4, d5, d6, d7, d8, d9] => { results := [.lit (.bool true)], args := [d1, d2, d3, d4, d5, d6, d7, d8, d9] }
  | _ => none }
def planTellsRow : OpenClaim := { program := "ytkpmddlinlcobaagreatdoor", sum := "87add541729cb09c751187948458eef386b91106c9ce9ed1797d6092c7c59069", func := "chimework/chimelaw2.PlanTells", spec := "planTells", inPlace := ["internal/reflectlite.ValueOf", "(internal/reflectlite.Value).Type", "(internal/reflectlite.Value).IsNil", "internal/reflectlite.TypeOf", "(internal/reflectlite.Value).Elem", "(internal/reflectlite.Value).Set"], unfollowed := true, recurses := true, named := ["chimework/day.months", "errors.errorType"], apart := false, laid := [("chimework/day.months", laid_chimework_day_months), ("errors.errorType", laid_errors_errorType)] }
def PlanTellsSaid : Prop := planTellsRow.holds Tryz.pinned (OpenSpec.ofChange planTellsSpec)

/-- ITS FALSE NEIGHBOUR: 'it returns false'. Refute it at one input. -/
def planTellsWrong : ChangeSpec := { name := "planTells", fn := fun _ => fun
  | [d1, d2, d3, d4, d5, d6, d7, d8, d9] => { results := [.lit (.bool false)], args := [d1, d2, d3, d4, d5, d6, d7, d8, d9] }
  | _ => none }
def PlanTellsWrongFalsely : Prop := planTellsRow.holds Tryz.pinned (OpenSpec.ofChange planTellsWrong)

/-- 'chimetop.TopDays': WHATEVER THE INPUT: true; the input reads as it did. -/
def topDaysSpec : ChangeSpec := { name := "topDays", fn := fun _ => fun
  | [d1, d2, d3, d4] => { results := [.lit (.bool true)], args := [d1, d2, d3, d4] }
  | _ => none }
def topDaysRow : OpenClaim := { program := "ytkpmddlinlcobaagreatdoor", sum := "87add541729cb09c751187948458eef386b91106c9ce9ed1797d6092c7c59069", func := "chimework/chimetop.TopDays", spec := "topDays", inPlace := ["internal/bytealg.abigen_runtime_cmpstring"], unfollowed := true, recurses := true, named := ["chimework/day.months"], apart := false, laid := [("chimework/day.months", laid_chimework_day_months)] }
def TopDaysSaid : Prop := topDaysRow.holds Tryz.pinned (OpenSpec.ofChange topDaysSpec)

/-- ITS FALSE NEIGHBOUR: 'it returns false'. Refute it at one input. -/
def topDaysWrong : ChangeSpec := { name := "topDays", fn := fun _ => fun
  | [d1, d2, d3, d4] => { results := [.lit (.bool false)], args := [d1, d2, d3, d4] }
  | _ => none }
def TopDaysWrongFalsely : Prop := topDaysRow.holds Tryz.pinned (OpenSpec.ofChange topDaysWrong)

/- THE SECOND FORM. 'bulk': how many values and letters a reading holds, each counted each time it is reached (what is shared counts as often as it is met; a slice's spare places count too). A statement '..UptoSaid' is the law's where the arguments, and the package variables that the reading takes, are together of bulk at most 1048576: NARROWER than '..Said'. Prove '..Said' where nothing that the law and all that it calls make is longer than what came in: it says more and counts as full. Else prove '..UptoSaid'. A law counts once. -/
mutual
def uptoBulk {H : Type} : DataW H → Nat
  | .lit (.string bytes) => bytes.length + 1
  | .lit _ => 1
  | .nil => 1
  | .ptr d => uptoBulk d + 1
  | .slice elems spare => uptoBulkAll elems + uptoBulkAll spare + 1
  | .agg parts => uptoBulkAll parts + 1
  | .iface _ d => uptoBulk d + 1
  | .map entries => uptoBulkEntries entries + 1
  | .held _ => 1
def uptoBulkAll {H : Type} : List (DataW H) → Nat
  | [] => 0
  | d :: r => uptoBulk d + uptoBulkAll r
def uptoBulkEntries {H : Type} : List (Lit × DataW H) → Nat
  | [] => 0
  | x :: r => uptoBulkEntry x + uptoBulkEntries r
def uptoBulkEntry {H : Type} : Lit × DataW H → Nat
  | (.string bytes, d) => bytes.length + uptoBulk d + 1
  | (_, d) => uptoBulk d + 1
 end
def uptoSmall : (H : Type) → List (DataW H) → Bool := fun _ ds => decide (uptoBulkAll ds ≤ 1048576)
def OpenSpec.upto (s : _root_.Go.ChangeSpec) : _root_.Go.OpenSpec := { _root_.Go.OpenSpec.ofChange s with cond := some uptoSmall }

/-- 'chimelaw2.EventTells', WHERE WHAT IT READS IS OF BULK AT MOST 1048576: true; the input reads as it did. -/
def eventTellsUptoRow : OpenClaim := { program := "ytkpmddlinlcobaagreatdoor", sum := "87add541729cb09c751187948458eef386b91106c9ce9ed1797d6092c7c59069", func := "chimework/chimelaw2.EventTells", spec := "eventTells", inPlace := ["internal/reflectlite.ValueOf", "(internal/reflectlite.Value).Type", "(internal/reflectlite.Value).IsNil", "internal/reflectlite.TypeOf", "(internal/reflectlite.Value).Elem", "(internal/reflectlite.Value).Set"], unfollowed := true, recurses := true, named := ["errors.errorType", "chimework/day.months"], apart := false, laid := [("chimework/day.months", laid_chimework_day_months), ("errors.errorType", laid_errors_errorType)], narrowed := true }
def EventTellsUptoSaid : Prop := eventTellsUptoRow.holds Tryz.pinned (OpenSpec.upto eventTellsSpec)

/-- 'chimelaw4.TimesAhead', WHERE WHAT IT READS IS OF BULK AT MOST 1048576: true; the input reads as it did. -/
def timesAheadUptoRow : OpenClaim := { program := "ytkpmddlinlcobaagreatdoor", sum := "87add541729cb09c751187948458eef386b91106c9ce9ed1797d6092c7c59069", func := "chimework/chimelaw4.TimesAhead", spec := "timesAhead", unfollowed := true, recurses := true, named := ["chimework/day.months"], apart := false, laid := [("chimework/day.months", laid_chimework_day_months)], narrowed := true }
def TimesAheadUptoSaid : Prop := timesAheadUptoRow.holds Tryz.pinned (OpenSpec.upto timesAheadSpec)

/-- 'chimelaw2.TimesHold', WHERE WHAT IT READS IS OF BULK AT MOST 1048576: true; the input reads as it did. -/
def timesHoldUptoRow : OpenClaim := { program := "ytkpmddlinlcobaagreatdoor", sum := "87add541729cb09c751187948458eef386b91106c9ce9ed1797d6092c7c59069", func := "chimework/chimelaw2.TimesHold", spec := "timesHold", unfollowed := true, recurses := true, named := ["chimework/day.months"], apart := false, laid := [("chimework/day.months", laid_chimework_day_months)], narrowed := true }
def TimesHoldUptoSaid : Prop := timesHoldUptoRow.holds Tryz.pinned (OpenSpec.upto timesHoldSpec)

/-- 'chimelaw2.TimesTells', WHERE WHAT IT READS IS OF BULK AT MOST 1048576: true; the input reads as it did. -/
def timesTellsUptoRow : OpenClaim := { program := "ytkpmddlinlcobaagreatdoor", sum := "87add541729cb09c751187948458eef386b91106c9ce9ed1797d6092c7c59069", func := "chimework/chimelaw2.TimesTells", spec := "timesTells", inPlace := ["internal/reflectlite.ValueOf", "(internal/reflectlite.Value).Type", "(internal/reflectlite.Value).IsNil", "internal/reflectlite.TypeOf", "(internal/reflectlite.Value).Elem", "(internal/reflectlite.Value).Set"], unfollowed := true, recurses := true, named := ["chimework/day.months", "errors.errorType"], apart := false, laid := [("chimework/day.months", laid_chimework_day_months), ("errors.errorType", laid_errors_errorType)], narrowed := true }
def TimesTellsUptoSaid : Prop := timesTellsUptoRow.holds Tryz.pinned (OpenSpec.upto timesTellsSpec)

/-- 'chimelaw4.AlarmCounts', WHERE WHAT IT READS IS OF BULK AT MOST 1048576: true; the input reads as it did. -/
def alarmCountsUptoRow : OpenClaim := { program := "ytkpmddlinlcobaagreatdoor", sum := "87add541729cb09c751187948458eef386b91106c9ce9ed1797d6092c7c59069", func := "chimework/chimelaw4.AlarmCounts", spec := "alarmCounts", inPlace := ["internal/bytealg.abigen_runtime_cmpstring"], unfollowed := true, recurses := true, named := ["chimework/day.months"], apart := false, laid := [("chimework/day.months", laid_chimework_day_months)], narrowed := true }
def AlarmCountsUptoSaid : Prop := alarmCountsUptoRow.holds Tryz.pinned (OpenSpec.upto alarmCountsSpec)

/-- 'chimelaw2.AlarmHolds', WHERE WHAT IT READS IS OF BULK AT MOST 1048576: true; the input reads as it did. -/
def alarmHoldsUptoRow : OpenClaim := { program := "ytkpmddlinlcobaagreatdoor", sum := "87add541729cb09c751187948458eef386b91106c9ce9ed1797d6092c7c59069", func := "chimework/chimelaw2.AlarmHolds", spec := "alarmHolds", inPlace := ["internal/bytealg.abigen_runtime_cmpstring"], unfollowed := true, recurses := true, named := ["chimework/day.months"], apart := false, laid := [("chimework/day.months", laid_chimework_day_months)], narrowed := true }
def AlarmHoldsUptoSaid : Prop := alarmHoldsUptoRow.holds Tryz.pinned (OpenSpec.upto alarmHoldsSpec)

/-- 'chimelaw2.AlarmTells', WHERE WHAT IT READS IS OF BULK AT MOST 1048576: true; the input reads as it did. -/
def alarmTellsUptoRow : OpenClaim := { program := "ytkpmddlinlcobaagreatdoor", sum := "87add541729cb09c751187948458eef386b91106c9ce9ed1797d6092c7c59069", func := "chimework/chimelaw2.AlarmTells", spec := "alarmTells", inPlace := ["internal/bytealg.abigen_runtime_cmpstring", "internal/reflectlite.ValueOf", "(internal/reflectlite.Value).Type", "(internal/reflectlite.Value).IsNil", "internal/reflectlite.TypeOf", "(internal/reflectlite.Value).Elem", "(internal/reflectlite.Value).Set"], unfollowed := true, recurses := true, named := ["chimework/day.months", "errors.errorType"], apart := false, laid := [("chimework/day.months", laid_chimework_day_months), ("errors.errorType", laid_errors_errorType)], narrowed := true }
def AlarmTellsUptoSaid : Prop := alarmTellsUptoRow.holds Tryz.pinned (OpenSpec.upto alarmTellsSpec)

/-- 'chimelaw4.PlanAlone', WHERE WHAT IT READS IS OF BULK AT MOST 1048576: true; the input reads as it did. -/
def planAloneUptoRow : OpenClaim := { program := "ytkpmddlinlcobaagreatdoor", sum := "87add541729cb09c751187948458eef386b91106c9ce9ed1797d6092c7c59069", func := "chimework/chimelaw4.PlanAlone", spec := "planAlone", unfollowed := true, recurses := true, named := ["chimework/day.months"], apart := false, laid := [("chimework/day.months", laid_chimework_day_months)], narrowed := true }
def PlanAloneUptoSaid : Prop := planAloneUptoRow.holds Tryz.pinned (OpenSpec.upto planAloneSpec)

/-- 'chimelaw2.PlanFits', WHERE WHAT IT READS IS OF BULK AT MOST 1048576: true; the input reads as it did. -/
def planFitsUptoRow : OpenClaim := { program := "ytkpmddlinlcobaagreatdoor", sum := "87add541729cb09c751187948458eef386b91106c9ce9ed1797d6092c7c59069", func := "chimework/chimelaw2.PlanFits", spec := "planFits", unfollowed := true, recurses := true, named := ["chimework/day.months"], apart := false, laid := [("chimework/day.months", laid_chimework_day_months)], narrowed := true }
def PlanFitsUptoSaid : Prop := planFitsUptoRow.holds Tryz.pinned (OpenSpec.upto planFitsSpec)

/-- 'chimelaw2.PlanTells', WHERE WHAT IT READS IS OF BULK AT MOST 1048576: true; the input reads as it did. -/
def planTellsUptoRow : OpenClaim := { program := "ytkpmddlinlcobaagreatdoor", sum := "87add541729cb09c751187948458eef386b91106c9ce9ed1797d6092c7c59069", func := "chimework/chimelaw2.PlanTells", spec := "planTells", inPlace := ["internal/reflectlite.ValueOf", "(internal/reflectlite.Value).Type", "(internal/reflectlite.Value).IsNil", "internal/reflectlite.TypeOf", "(internal/reflectlite.Value).Elem", "(internal/reflectlite.Value).Set"], unfollowed := true, recurses := true, named := ["chimework/day.months", "errors.errorType"], apart := false, laid := [("chimework/day.months", laid_chimework_day_months), ("errors.errorType", laid_errors_errorType)], narrowed := true }
def PlanTellsUptoSaid : Prop := planTellsUptoRow.holds Tryz.pinned (OpenSpec.upto planTellsSpec)

/-- 'chimetop.TopDays', WHERE WHAT IT READS IS OF BULK AT MOST 1048576: true; the input reads as it did. -/
def topDaysUptoRow : OpenClaim := { program := "ytkpmddlinlcobaagreatdoor", sum := "87add541729cb09c751187948458eef386b91106c9ce9ed1797d6092c7c59069", func := "chimework/chimetop.TopDays", spec := "topDays", inPlace := ["internal/bytealg.abigen_runtime_cmpstring"], unfollowed := true, recurses := true, named := ["chimework/day.months"], apart := false, laid := [("chimework/day.months", laid_chimework_day_months)], narrowed := true }
def TopDaysUptoSaid : Prop := topDaysUptoRow.holds Tryz.pinned (OpenSpec.upto topDaysSpec)

end Rows
end Go.Proofs.YtkpmddlinlcobaaGreatDoor
