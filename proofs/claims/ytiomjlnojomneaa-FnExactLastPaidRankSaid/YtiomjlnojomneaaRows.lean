/-
  No cell of these rows narrows 'for every input' (looked for: loops, veiled, ifaces, maps, wideKeys, modest, calm, conditions, laid).
  DERIVED. THE GIVEN ROWS OF THIS SEAT. 11 by the template 'for every input the law returns true; each argument reads behind the call as it read before'; 0 by the template 'total and deterministic' (their statements: YtiomjlnojomneaaTotals.lean).
  GIVEN WITH THE SEED: the statements are not yours to turn. If you find one false, say at which input.
  Laid BY PROGRAM, IN A SANDBOX (cutbox-rows.mjs): the forced cells as the released guide's own fill.sh prints them over the translation 1c849f55856e3f25… (all of the seat's roots in one cut). By AI agents, Wed Nov 11 2026. No macro, syntax, notation, axiom, sorry.
-/
import Derived.Test.YtiomjlnojomneaaChecked
import GoSem.Claim
import GoSem.ClaimJoined
import GoSem.ClaimMapViews
import Derived.JoinedTies
import Derived.KernelRfl
namespace Go.Proofs.Ytiomjlnojomneaa
/- THE CELL 'sum', in the pinned program and in every row, IS THE sha256 OF THE DUMP (.gsa) THAT YtiomjlnojomneaaProg.lean LOADS. Nothing in Lean hashes anything: it is a label: what it is worth is what the hold of that sum in a sandbox is worth. -/
noncomputable def Try.pinned : Pinned := { name := "ytiomjlnojomneaa", sum := "1c849f55856e3f25c0fa45bdedfc56384ac0d01fbe1607b7c0e4e018de315640", checked := Try.checked }
namespace Rows
def none {H : Type} : Left H := { results := [], args := [] }

/-- 'laws.FnExactLastPaidRank': WHATEVER THE INPUT: true; the input reads as it did. -/
def fnExactLastPaidRankSpec : ChangeSpec := { name := "fnExactLastPaidRank", fn := fun _ => fun
  | [d1, d2] => { results := [.lit (.bool true)], args := [d1, d2] }
  | _ => none }
def fnExactLastPaidRankRow : OpenClaim := { program := "ytiomjlnojomneaa", sum := "1c849f55856e3f25c0fa45bdedfc56384ac0d01fbe1607b7c0e4e018de315640", func := "loop.example/g01010/laws.FnExactLastPaidRank", spec := "fnExactLastPaidRank", inPlace := ["internal/bytealg.abigen_runtime_cmpstring"], unfollowed := true, recurses := true, apart := false }
def FnExactLastPaidRankSaid : Prop := fnExactLastPaidRankRow.holds Try.pinned (OpenSpec.ofChange fnExactLastPaidRankSpec)

/-- ITS FALSE NEIGHBOUR: 'it returns false'. Refute it at one input. -/
def fnExactLastPaidRankWrong : ChangeSpec := { name := "fnExactLastPaidRank", fn := fun _ => fun
  | [d1, d2] => { results := [.lit (.bool false)], args := [d1, d2] }
  | _ => none }
def FnExactLastPaidRankWrongFalsely : Prop := fnExactLastPaidRankRow.holds Try.pinned (OpenSpec.ofChange fnExactLastPaidRankWrong)

/-- 'laws.FnExactRemainingSecurities': WHATEVER THE INPUT: true; the input reads as it did. -/
def fnExactRemainingSecuritiesSpec : ChangeSpec := { name := "fnExactRemainingSecurities", fn := fun _ => fun
  | [d1, d2] => { results := [.lit (.bool true)], args := [d1, d2] }
  | _ => none }
def fnExactRemainingSecuritiesRow : OpenClaim := { program := "ytiomjlnojomneaa", sum := "1c849f55856e3f25c0fa45bdedfc56384ac0d01fbe1607b7c0e4e018de315640", func := "loop.example/g01010/laws.FnExactRemainingSecurities", spec := "fnExactRemainingSecurities", unfollowed := true, recurses := true, apart := false }
def FnExactRemainingSecuritiesSaid : Prop := fnExactRemainingSecuritiesRow.holds Try.pinned (OpenSpec.ofChange fnExactRemainingSecuritiesSpec)

/-- ITS FALSE NEIGHBOUR: 'it returns false'. Refute it at one input. -/
def fnExactRemainingSecuritiesWrong : ChangeSpec := { name := "fnExactRemainingSecurities", fn := fun _ => fun
  | [d1, d2] => { results := [.lit (.bool false)], args := [d1, d2] }
  | _ => none }
def FnExactRemainingSecuritiesWrongFalsely : Prop := fnExactRemainingSecuritiesRow.holds Try.pinned (OpenSpec.ofChange fnExactRemainingSecuritiesWrong)

/-- 'laws.FnExactChangeRank': WHATEVER THE INPUT: true; the input reads as it did. -/
def fnExactChangeRankSpec : ChangeSpec := { name := "fnExactChangeRank", fn := fun _ => fun
  | [d1, d2, d3] => { results := [.lit (.bool true)], args := [d1, d2, d3] }
  | _ => none }
def fnExactChangeRankRow : OpenClaim := { program := "ytiomjlnojomneaa", sum := "1c849f55856e3f25c0fa45bdedfc56384ac0d01fbe1607b7c0e4e018de315640", func := "loop.example/g01010/laws.FnExactChangeRank", spec := "fnExactChangeRank", inPlace := ["internal/bytealg.abigen_runtime_cmpstring"], unfollowed := true, recurses := true, apart := false }
def FnExactChangeRankSaid : Prop := fnExactChangeRankRow.holds Try.pinned (OpenSpec.ofChange fnExactChangeRankSpec)

/-- ITS FALSE NEIGHBOUR: 'it returns false'. Refute it at one input. -/
def fnExactChangeRankWrong : ChangeSpec := { name := "fnExactChangeRank", fn := fun _ => fun
  | [d1, d2, d3] => { results := [.lit (.bool false)], args := [d1, d2, d3] }
  | _ => none }
def FnExactChangeRankWrongFalsely : Prop := fnExactChangeRankRow.holds Try.pinned (OpenSpec.ofChange fnExactChangeRankWrong)

/-- 'laws.FnExactPayFromSecurities': WHATEVER THE INPUT: true; the input reads as it did. -/
def fnExactPayFromSecuritiesSpec : ChangeSpec := { name := "fnExactPayFromSecurities", fn := fun _ => fun
  | [d1, d2, d3] => { results := [.lit (.bool true)], args := [d1, d2, d3] }
  | _ => none }
def fnExactPayFromSecuritiesRow : OpenClaim := { program := "ytiomjlnojomneaa", sum := "1c849f55856e3f25c0fa45bdedfc56384ac0d01fbe1607b7c0e4e018de315640", func := "loop.example/g01010/laws.FnExactPayFromSecurities", spec := "fnExactPayFromSecurities", unfollowed := true, recurses := true, apart := false }
def FnExactPayFromSecuritiesSaid : Prop := fnExactPayFromSecuritiesRow.holds Try.pinned (OpenSpec.ofChange fnExactPayFromSecuritiesSpec)

/-- ITS FALSE NEIGHBOUR: 'it returns false'. Refute it at one input. -/
def fnExactPayFromSecuritiesWrong : ChangeSpec := { name := "fnExactPayFromSecurities", fn := fun _ => fun
  | [d1, d2, d3] => { results := [.lit (.bool false)], args := [d1, d2, d3] }
  | _ => none }
def FnExactPayFromSecuritiesWrongFalsely : Prop := fnExactPayFromSecuritiesRow.holds Try.pinned (OpenSpec.ofChange fnExactPayFromSecuritiesWrong)

/-- 'laws.FnExactDueDay': WHATEVER THE INPUT: true; the input reads as it did. -/
def fnExactDueDaySpec : ChangeSpec := { name := "fnExactDueDay", fn := fun _ => fun
  | [d1, d2] => { results := [.lit (.bool true)], args := [d1, d2] }
  | _ => none }
def fnExactDueDayRow : OpenClaim := { program := "ytiomjlnojomneaa", sum := "1c849f55856e3f25c0fa45bdedfc56384ac0d01fbe1607b7c0e4e018de315640", func := "loop.example/g01010/laws.FnExactDueDay", spec := "fnExactDueDay", unfollowed := true, recurses := true, apart := false }
def FnExactDueDaySaid : Prop := fnExactDueDayRow.holds Try.pinned (OpenSpec.ofChange fnExactDueDaySpec)

/-- ITS FALSE NEIGHBOUR: 'it returns false'. Refute it at one input. -/
def fnExactDueDayWrong : ChangeSpec := { name := "fnExactDueDay", fn := fun _ => fun
  | [d1, d2] => { results := [.lit (.bool false)], args := [d1, d2] }
  | _ => none }
def FnExactDueDayWrongFalsely : Prop := fnExactDueDayRow.holds Try.pinned (OpenSpec.ofChange fnExactDueDayWrong)

/-- 'laws.FnExactNextAction': WHATEVER THE INPUT: true; the input reads as it did. -/
def fnExactNextActionSpec : ChangeSpec := { name := "fnExactNextAction", fn := fun _ => fun
  | [d1, d2] => { results := [.lit (.bool true)], args := [d1, d2] }
  | _ => none }
def fnExactNextActionRow : OpenClaim := { program := "ytiomjlnojomneaa", sum := "1c849f55856e3f25c0fa45bdedfc56384ac0d01fbe1607b7c0e4e018de315640", func := "loop.example/g01010/laws.FnExactNextAction", spec := "fnExactNextAction", unfollowed := true, recurses := true, apart := false }
def FnExactNextActionSaid : Prop := fnExactNextActionRow.holds Try.pinned (OpenSpec.ofChange fnExactNextActionSpec)

/-- ITS FALSE NEIGHBOUR: 'it returns false'. Refute it at one input. -/
def fnExactNextActionWrong : ChangeSpec := { name := "fnExactNextAction", fn := fun _ => fun
  | [d1, d2] => { results := [.lit (.bool false)], args := [d1, d2] }
  | _ => none }
def FnExactNextActionWrongFalsely : Prop := fnExactNextActionRow.holds Try.pinned (OpenSpec.ofChange fnExactNextActionWrong)

/-- 'laws.FnExactStageOn': WHATEVER THE INPUT: true; the input reads as it did. -/
def fnExactStageOnSpec : ChangeSpec := { name := "fnExactStageOn", fn := fun _ => fun
  | [d1, d2, d3] => { results := [.lit (.bool true)], args := [d1, d2, d3] }
  | _ => none }
def fnExactStageOnRow : OpenClaim := { program := "ytiomjlnojomneaa", sum := "1c849f55856e3f25c0fa45bdedfc56384ac0d01fbe1607b7c0e4e018de315640", func := "loop.example/g01010/laws.FnExactStageOn", spec := "fnExactStageOn", unfollowed := true, recurses := true, apart := false }
def FnExactStageOnSaid : Prop := fnExactStageOnRow.holds Try.pinned (OpenSpec.ofChange fnExactStageOnSpec)

/-- ITS FALSE NEIGHBOUR: 'it returns false'. Refute it at one input. -/
def fnExactStageOnWrong : ChangeSpec := { name := "fnExactStageOn", fn := fun _ => fun
  | [d1, d2, d3] => { results := [.lit (.bool false)], args := [d1, d2, d3] }
  | _ => none }
def FnExactStageOnWrongFalsely : Prop := fnExactStageOnRow.holds Try.pinned (OpenSpec.ofChange fnExactStageOnWrong)

/-- 'laws.FnExactSafeFund': WHATEVER THE INPUT: true; the input reads as it did. -/
def fnExactSafeFundSpec : ChangeSpec := { name := "fnExactSafeFund", fn := fun _ => fun
  | [d1, d2, d3] => { results := [.lit (.bool true)], args := [d1, d2, d3] }
  | _ => none }
def fnExactSafeFundRow : OpenClaim := { program := "ytiomjlnojomneaa", sum := "1c849f55856e3f25c0fa45bdedfc56384ac0d01fbe1607b7c0e4e018de315640", func := "loop.example/g01010/laws.FnExactSafeFund", spec := "fnExactSafeFund", inPlace := ["internal/bytealg.abigen_runtime_cmpstring"], unfollowed := true, recurses := true, apart := false }
def FnExactSafeFundSaid : Prop := fnExactSafeFundRow.holds Try.pinned (OpenSpec.ofChange fnExactSafeFundSpec)

/-- ITS FALSE NEIGHBOUR: 'it returns false'. Refute it at one input. -/
def fnExactSafeFundWrong : ChangeSpec := { name := "fnExactSafeFund", fn := fun _ => fun
  | [d1, d2, d3] => { results := [.lit (.bool false)], args := [d1, d2, d3] }
  | _ => none }
def FnExactSafeFundWrongFalsely : Prop := fnExactSafeFundRow.holds Try.pinned (OpenSpec.ofChange fnExactSafeFundWrong)

/-- 'laws.FnExactPointsFor': WHATEVER THE INPUT: true; the input reads as it did. -/
def fnExactPointsForSpec : ChangeSpec := { name := "fnExactPointsFor", fn := fun _ => fun
  | [d1, d2, d3] => { results := [.lit (.bool true)], args := [d1, d2, d3] }
  | _ => none }
def fnExactPointsForRow : OpenClaim := { program := "ytiomjlnojomneaa", sum := "1c849f55856e3f25c0fa45bdedfc56384ac0d01fbe1607b7c0e4e018de315640", func := "loop.example/g01010/laws.FnExactPointsFor", spec := "fnExactPointsFor", inPlace := ["internal/bytealg.abigen_runtime_cmpstring"], unfollowed := true, recurses := true, apart := false }
def FnExactPointsForSaid : Prop := fnExactPointsForRow.holds Try.pinned (OpenSpec.ofChange fnExactPointsForSpec)

/-- ITS FALSE NEIGHBOUR: 'it returns false'. Refute it at one input. -/
def fnExactPointsForWrong : ChangeSpec := { name := "fnExactPointsFor", fn := fun _ => fun
  | [d1, d2, d3] => { results := [.lit (.bool false)], args := [d1, d2, d3] }
  | _ => none }
def FnExactPointsForWrongFalsely : Prop := fnExactPointsForRow.holds Try.pinned (OpenSpec.ofChange fnExactPointsForWrong)

/-- 'laws.FnExactReminderDays': WHATEVER THE INPUT: true; the input reads as it did. -/
def fnExactReminderDaysSpec : ChangeSpec := { name := "fnExactReminderDays", fn := fun _ => fun
  | [d1, d2] => { results := [.lit (.bool true)], args := [d1, d2] }
  | _ => none }
def fnExactReminderDaysRow : OpenClaim := { program := "ytiomjlnojomneaa", sum := "1c849f55856e3f25c0fa45bdedfc56384ac0d01fbe1607b7c0e4e018de315640", func := "loop.example/g01010/laws.FnExactReminderDays", spec := "fnExactReminderDays", unfollowed := true, recurses := true, apart := false }
def FnExactReminderDaysSaid : Prop := fnExactReminderDaysRow.holds Try.pinned (OpenSpec.ofChange fnExactReminderDaysSpec)

/-- ITS FALSE NEIGHBOUR: 'it returns false'. Refute it at one input. -/
def fnExactReminderDaysWrong : ChangeSpec := { name := "fnExactReminderDays", fn := fun _ => fun
  | [d1, d2] => { results := [.lit (.bool false)], args := [d1, d2] }
  | _ => none }
def FnExactReminderDaysWrongFalsely : Prop := fnExactReminderDaysRow.holds Try.pinned (OpenSpec.ofChange fnExactReminderDaysWrong)

/-- 'laws.FnPaidSecurities': WHATEVER THE INPUT: true; the input reads as it did. -/
def fnPaidSecuritiesSpec : ChangeSpec := { name := "fnPaidSecurities", fn := fun _ => fun
  | [d] => { results := [.lit (.bool true)], args := [d] }
  | _ => none }
def fnPaidSecuritiesRow : OpenClaim := { program := "ytiomjlnojomneaa", sum := "1c849f55856e3f25c0fa45bdedfc56384ac0d01fbe1607b7c0e4e018de315640", func := "loop.example/g01010/laws.FnPaidSecurities", spec := "fnPaidSecurities", unfollowed := true, recurses := true, apart := false }
def FnPaidSecuritiesSaid : Prop := fnPaidSecuritiesRow.holds Try.pinned (OpenSpec.ofChange fnPaidSecuritiesSpec)

/-- ITS FALSE NEIGHBOUR: 'it returns false'. Refute it at one input. -/
def fnPaidSecuritiesWrong : ChangeSpec := { name := "fnPaidSecurities", fn := fun _ => fun
  | [d] => { results := [.lit (.bool false)], args := [d] }
  | _ => none }
def FnPaidSecuritiesWrongFalsely : Prop := fnPaidSecuritiesRow.holds Try.pinned (OpenSpec.ofChange fnPaidSecuritiesWrong)

/- THE SECOND FORM. 'bulk': how many values and letters a reading holds, each counted each time it is reached (what is shared counts as often as it is met; a slice's spare places count too). A statement '..UptoSaid' is the law's where the arguments, and the package variables that the reading takes, are together of bulk at most 1048576: NARROWER than '..Said'. Prove '..Said' where nothing that the law and all that it calls make is longer than what came in: it says more and counts as full. Else prove '..UptoSaid'. A law counts once. -/
mutual
def uptoBulk {H : Type} : DataW H → Nat
  | .lit (.string bytes) => bytes.length + 1
  | .lit _ => 1
  | .nil => 1
  | .ptr d => uptoBulk d + 1
  | .slice elems spare => uptoBulkAll elems + uptoBulkAll spare + 1
  | .agg parts => uptoBulkAll parts + 1
  | .iface _ d => uptoBulk d + 1
  | .map entries => uptoBulkEntries entries + 1
  | .held _ => 1
def uptoBulkAll {H : Type} : List (DataW H) → Nat
  | [] => 0
  | d :: r => uptoBulk d + uptoBulkAll r
def uptoBulkEntries {H : Type} : List (Lit × DataW H) → Nat
  | [] => 0
  | x :: r => uptoBulkEntry x + uptoBulkEntries r
def uptoBulkEntry {H : Type} : Lit × DataW H → Nat
  | (.string bytes, d) => bytes.length + uptoBulk d + 1
  | (_, d) => uptoBulk d + 1
 end
def uptoSmall : (H : Type) → List (DataW H) → Bool := fun _ ds => decide (uptoBulkAll ds ≤ 1048576)
def OpenSpec.upto (s : _root_.Go.ChangeSpec) : _root_.Go.OpenSpec := { _root_.Go.OpenSpec.ofChange s with cond := some uptoSmall }

/-- 'laws.FnExactLastPaidRank', WHERE WHAT IT READS IS OF BULK AT MOST 1048576: true; the input reads as it did. -/
def fnExactLastPaidRankUptoRow : OpenClaim := { program := "ytiomjlnojomneaa", sum := "1c849f55856e3f25c0fa45bdedfc56384ac0d01fbe1607b7c0e4e018de315640", func := "loop.example/g01010/laws.FnExactLastPaidRank", spec := "fnExactLastPaidRank", inPlace := ["internal/bytealg.abigen_runtime_cmpstring"], unfollowed := true, recurses := true, apart := false, narrowed := true }
def FnExactLastPaidRankUptoSaid : Prop := fnExactLastPaidRankUptoRow.holds Try.pinned (OpenSpec.upto fnExactLastPaidRankSpec)

/-- 'laws.FnExactRemainingSecurities', WHERE WHAT IT READS IS OF BULK AT MOST 1048576: true; the input reads as it did. -/
def fnExactRemainingSecuritiesUptoRow : OpenClaim := { program := "ytiomjlnojomneaa", sum := "1c849f55856e3f25c0fa45bdedfc56384ac0d01fbe1607b7c0e4e018de315640", func := "loop.example/g01010/laws.FnExactRemainingSecurities", spec := "fnExactRemainingSecurities", unfollowed := true, recurses := true, apart := false, narrowed := true }
def FnExactRemainingSecuritiesUptoSaid : Prop := fnExactRemainingSecuritiesUptoRow.holds Try.pinned (OpenSpec.upto fnExactRemainingSecuritiesSpec)

/-- 'laws.FnExactChangeRank', WHERE WHAT IT READS IS OF BULK AT MOST 1048576: true; the input reads as it did. -/
def fnExactChangeRankUptoRow : OpenClaim := { program := "ytiomjlnojomneaa", sum := "1c849f55856e3f25c0fa45bdedfc56384ac0d01fbe1607b7c0e4e018de315640", func := "loop.example/g01010/laws.FnExactChangeRank", spec := "fnExactChangeRank", inPlace := ["internal/bytealg.abigen_runtime_cmpstring"], unfollowed := true, recurses := true, apart := false, narrowed := true }
def FnExactChangeRankUptoSaid : Prop := fnExactChangeRankUptoRow.holds Try.pinned (OpenSpec.upto fnExactChangeRankSpec)

/-- 'laws.FnExactPayFromSecurities', WHERE WHAT IT READS IS OF BULK AT MOST 1048576: true; the input reads as it did. -/
def fnExactPayFromSecuritiesUptoRow : OpenClaim := { program := "ytiomjlnojomneaa", sum := "1c849f55856e3f25c0fa45bdedfc56384ac0d01fbe1607b7c0e4e018de315640", func := "loop.example/g01010/laws.FnExactPayFromSecurities", spec := "fnExactPayFromSecurities", unfollowed := true, recurses := true, apart := false, narrowed := true }
def FnExactPayFromSecuritiesUptoSaid : Prop := fnExactPayFromSecuritiesUptoRow.holds Try.pinned (OpenSpec.upto fnExactPayFromSecuritiesSpec)

/-- 'laws.FnExactDueDay', WHERE WHAT IT READS IS OF BULK AT MOST 1048576: true; the input reads as it did. -/
def fnExactDueDayUptoRow : OpenClaim := { program := "ytiomjlnojomneaa", sum := "1c849f55856e3f25c0fa45bdedfc56384ac0d01fbe1607b7c0e4e018de315640", func := "loop.example/g01010/laws.FnExactDueDay", spec := "fnExactDueDay", unfollowed := true, recurses := true, apart := false, narrowed := true }
def FnExactDueDayUptoSaid : Prop := fnExactDueDayUptoRow.holds Try.pinned (OpenSpec.upto fnExactDueDaySpec)

/-- 'laws.FnExactNextAction', WHERE WHAT IT READS IS OF BULK AT MOST 1048576: true; the input reads as it did. -/
def fnExactNextActionUptoRow : OpenClaim := { program := "ytiomjlnojomneaa", sum := "1c849f55856e3f25c0fa45bdedfc56384ac0d01fbe1607b7c0e4e018de315640", func := "loop.example/g01010/laws.FnExactNextAction", spec := "fnExactNextAction", unfollowed := true, recurses := true, apart := false, narrowed := true }
def FnExactNextActionUptoSaid : Prop := fnExactNextActionUptoRow.holds Try.pinned (OpenSpec.upto fnExactNextActionSpec)

/-- 'laws.FnExactStageOn', WHERE WHAT IT READS IS OF BULK AT MOST 1048576: true; the input reads as it did. -/
def fnExactStageOnUptoRow : OpenClaim := { program := "ytiomjlnojomneaa", sum := "1c849f55856e3f25c0fa45bdedfc56384ac0d01fbe1607b7c0e4e018de315640", func := "loop.example/g01010/laws.FnExactStageOn", spec := "fnExactStageOn", unfollowed := true, recurses := true, apart := false, narrowed := true }
def FnExactStageOnUptoSaid : Prop := fnExactStageOnUptoRow.holds Try.pinned (OpenSpec.upto fnExactStageOnSpec)

/-- 'laws.FnExactSafeFund', WHERE WHAT IT READS IS OF BULK AT MOST 1048576: true; the input reads as it did. -/
def fnExactSafeFundUptoRow : OpenClaim := { program := "ytiomjlnojomneaa", sum := "1c849f55856e3f25c0fa45bdedfc56384ac0d01fbe1607b7c0e4e018de315640", func := "loop.example/g01010/laws.FnExactSafeFund", spec := "fnExactSafeFund", inPlace := ["internal/bytealg.abigen_runtime_cmpstring"], unfollowed := true, recurses := true, apart := false, narrowed := true }
def FnExactSafeFundUptoSaid : Prop := fnExactSafeFundUptoRow.holds Try.pinned (OpenSpec.upto fnExactSafeFundSpec)

/-- 'laws.FnExactPointsFor', WHERE WHAT IT READS IS OF BULK AT MOST 1048576: true; the input reads as it did. -/
def fnExactPointsForUptoRow : OpenClaim := { program := "ytiomjlnojomneaa", sum := "1c849f55856e3f25c0fa45bdedfc56384ac0d01fbe1607b7c0e4e018de315640", func := "loop.example/g01010/laws.FnExactPointsFor", spec := "fnExactPointsFor", inPlace := ["internal/bytealg.abigen_runtime_cmpstring"], unfollowed := true, recurses := true, apart := false, narrowed := true }
def FnExactPointsForUptoSaid : Prop := fnExactPointsForUptoRow.holds Try.pinned (OpenSpec.upto fnExactPointsForSpec)

/-- 'laws.FnExactReminderDays', WHERE WHAT IT READS IS OF BULK AT MOST 1048576: true; the input reads as it did. -/
def fnExactReminderDaysUptoRow : OpenClaim := { program := "ytiomjlnojomneaa", sum := "1c849f55856e3f25c0fa45bdedfc56384ac0d01fbe1607b7c0e4e018de315640", func := "loop.example/g01010/laws.FnExactReminderDays", spec := "fnExactReminderDays", unfollowed := true, recurses := true, apart := false, narrowed := true }
def FnExactReminderDaysUptoSaid : Prop := fnExactReminderDaysUptoRow.holds Try.pinned (OpenSpec.upto fnExactReminderDaysSpec)

/-- 'laws.FnPaidSecurities', WHERE WHAT IT READS IS OF BULK AT MOST 1048576: true; the input reads as it did. -/
def fnPaidSecuritiesUptoRow : OpenClaim := { program := "ytiomjlnojomneaa", sum := "1c849f55856e3f25c0fa45bdedfc56384ac0d01fbe1607b7c0e4e018de315640", func := "loop.example/g01010/laws.FnPaidSecurities", spec := "fnPaidSecurities", unfollowed := true, recurses := true, apart := false, narrowed := true }
def FnPaidSecuritiesUptoSaid : Prop := fnPaidSecuritiesUptoRow.holds Try.pinned (OpenSpec.upto fnPaidSecuritiesSpec)

end Rows
end Go.Proofs.Ytiomjlnojomneaa
