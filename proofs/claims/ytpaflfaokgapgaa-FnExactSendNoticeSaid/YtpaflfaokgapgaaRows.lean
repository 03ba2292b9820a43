/-
  No cell of these rows narrows 'for every input' (looked for: loops, veiled, ifaces, maps, wideKeys, modest, calm, conditions, laid).
  DERIVED. THE GIVEN ROWS OF THIS SEAT. 12 by the template 'for every input the law returns true; each argument reads behind the call as it read before'; 0 by the template 'total and deterministic' (their statements: YtpaflfaokgapgaaTotals.lean).
  GIVEN WITH THE SEED: the statements are not yours to turn. If you find one false, say at which input.
  Laid BY PROGRAM, IN A SANDBOX (cutbox-rows.mjs): the forced cells as the released guide's own fill.sh prints them over the translation d5942437c31e7a7e… (all of the seat's roots in one cut). By AI agents, Wed Nov 11 2026. No macro, syntax, notation, axiom, sorry.
-/
import Derived.Test.YtpaflfaokgapgaaChecked
import GoSem.Claim
import GoSem.ClaimJoined
import GoSem.ClaimMapViews
import Derived.JoinedTies
import Derived.KernelRfl
namespace Go.Proofs.Ytpaflfaokgapgaa
/- THE CELL 'sum', in the pinned program and in every row, IS THE sha256 OF THE DUMP (.gsa) THAT YtpaflfaokgapgaaProg.lean LOADS. Nothing in Lean hashes anything: it is a label: what it is worth is what the hold of that sum in a sandbox is worth. -/
noncomputable def Try.pinned : Pinned := { name := "ytpaflfaokgapgaa", sum := "d5942437c31e7a7e3674e50134bbf3b77fb421762a964773b97a04cc724aecb4", checked := Try.checked }
namespace Rows
def none {H : Type} : Left H := { results := [], args := [] }

/-- 'laws.FnExactIsDiary': WHATEVER THE INPUT: true; the input reads as it did. -/
def fnExactIsDiarySpec : ChangeSpec := { name := "fnExactIsDiary", fn := fun _ => fun
  | [d] => { results := [.lit (.bool true)], args := [d] }
  | _ => none }
def fnExactIsDiaryRow : OpenClaim := { program := "ytpaflfaokgapgaa", sum := "d5942437c31e7a7e3674e50134bbf3b77fb421762a964773b97a04cc724aecb4", func := "loop.example/g01010/laws.FnExactIsDiary", spec := "fnExactIsDiary", unfollowed := true, recurses := true, apart := false }
def FnExactIsDiarySaid : Prop := fnExactIsDiaryRow.holds Try.pinned (OpenSpec.ofChange fnExactIsDiarySpec)

/-- ITS FALSE NEIGHBOUR: 'it returns false'. Refute it at one input. -/
def fnExactIsDiaryWrong : ChangeSpec := { name := "fnExactIsDiary", fn := fun _ => fun
  | [d] => { results := [.lit (.bool false)], args := [d] }
  | _ => none }
def FnExactIsDiaryWrongFalsely : Prop := fnExactIsDiaryRow.holds Try.pinned (OpenSpec.ofChange fnExactIsDiaryWrong)

/-- 'laws.FnExactDueDay': WHATEVER THE INPUT: true; the input reads as it did. -/
def fnExactDueDaySpec : ChangeSpec := { name := "fnExactDueDay", fn := fun _ => fun
  | [d1, d2] => { results := [.lit (.bool true)], args := [d1, d2] }
  | _ => none }
def fnExactDueDayRow : OpenClaim := { program := "ytpaflfaokgapgaa", sum := "d5942437c31e7a7e3674e50134bbf3b77fb421762a964773b97a04cc724aecb4", func := "loop.example/g01010/laws.FnExactDueDay", spec := "fnExactDueDay", unfollowed := true, recurses := true, apart := false }
def FnExactDueDaySaid : Prop := fnExactDueDayRow.holds Try.pinned (OpenSpec.ofChange fnExactDueDaySpec)

/-- ITS FALSE NEIGHBOUR: 'it returns false'. Refute it at one input. -/
def fnExactDueDayWrong : ChangeSpec := { name := "fnExactDueDay", fn := fun _ => fun
  | [d1, d2] => { results := [.lit (.bool false)], args := [d1, d2] }
  | _ => none }
def FnExactDueDayWrongFalsely : Prop := fnExactDueDayRow.holds Try.pinned (OpenSpec.ofChange fnExactDueDayWrong)

/-- 'laws.FnExactNextAction': WHATEVER THE INPUT: true; the input reads as it did. -/
def fnExactNextActionSpec : ChangeSpec := { name := "fnExactNextAction", fn := fun _ => fun
  | [d1, d2] => { results := [.lit (.bool true)], args := [d1, d2] }
  | _ => none }
def fnExactNextActionRow : OpenClaim := { program := "ytpaflfaokgapgaa", sum := "d5942437c31e7a7e3674e50134bbf3b77fb421762a964773b97a04cc724aecb4", func := "loop.example/g01010/laws.FnExactNextAction", spec := "fnExactNextAction", unfollowed := true, recurses := true, apart := false }
def FnExactNextActionSaid : Prop := fnExactNextActionRow.holds Try.pinned (OpenSpec.ofChange fnExactNextActionSpec)

/-- ITS FALSE NEIGHBOUR: 'it returns false'. Refute it at one input. -/
def fnExactNextActionWrong : ChangeSpec := { name := "fnExactNextAction", fn := fun _ => fun
  | [d1, d2] => { results := [.lit (.bool false)], args := [d1, d2] }
  | _ => none }
def FnExactNextActionWrongFalsely : Prop := fnExactNextActionRow.holds Try.pinned (OpenSpec.ofChange fnExactNextActionWrong)

/-- 'laws.FnExactStageOn': WHATEVER THE INPUT: true; the input reads as it did. -/
def fnExactStageOnSpec : ChangeSpec := { name := "fnExactStageOn", fn := fun _ => fun
  | [d1, d2, d3] => { results := [.lit (.bool true)], args := [d1, d2, d3] }
  | _ => none }
def fnExactStageOnRow : OpenClaim := { program := "ytpaflfaokgapgaa", sum := "d5942437c31e7a7e3674e50134bbf3b77fb421762a964773b97a04cc724aecb4", func := "loop.example/g01010/laws.FnExactStageOn", spec := "fnExactStageOn", unfollowed := true, recurses := true, apart := false }
def FnExactStageOnSaid : Prop := fnExactStageOnRow.holds Try.pinned (OpenSpec.ofChange fnExactStageOnSpec)

/-- ITS FALSE NEIGHBOUR: 'it returns false'. Refute it at one input. -/
def fnExactStageOnWrong : ChangeSpec := { name := "fnExactStageOn", fn := fun _ => fun
  | [d1, d2, d3] => { results := [.lit (.bool false)], args := [d1, d2, d3] }
  | _ => none }
def FnExactStageOnWrongFalsely : Prop := fnExactStageOnRow.holds Try.pinned (OpenSpec.ofChange fnExactStageOnWrong)

/-- 'laws.FnExactReminderDays': WHATEVER THE INPUT: true; the input reads as it did. -/
def fnExactReminderDaysSpec : ChangeSpec := { name := "fnExactReminderDays", fn := fun _ => fun
  | [d1, d2] => { results := [.lit (.bool true)], args := [d1, d2] }
  | _ => none }
def fnExactReminderDaysRow : OpenClaim := { program := "ytpaflfaokgapgaa", sum := "d5942437c31e7a7e3674e50134bbf3b77fb421762a964773b97a04cc724aecb4", func := "loop.example/g01010/laws.FnExactReminderDays", spec := "fnExactReminderDays", unfollowed := true, recurses := true, apart := false }
def FnExactReminderDaysSaid : Prop := fnExactReminderDaysRow.holds Try.pinned (OpenSpec.ofChange fnExactReminderDaysSpec)

/-- ITS FALSE NEIGHBOUR: 'it returns false'. Refute it at one input. -/
def fnExactReminderDaysWrong : ChangeSpec := { name := "fnExactReminderDays", fn := fun _ => fun
  | [d1, d2] => { results := [.lit (.bool false)], args := [d1, d2] }
  | _ => none }
def FnExactReminderDaysWrongFalsely : Prop := fnExactReminderDaysRow.holds Try.pinned (OpenSpec.ofChange fnExactReminderDaysWrong)

/-- 'laws.FnExactAnswerNotice': WHATEVER THE INPUT: true; the input reads as it did. -/
def fnExactAnswerNoticeSpec : ChangeSpec := { name := "fnExactAnswerNotice", fn := fun _ => fun
  | [d1, d2, d3] => { results := [.lit (.bool true)], args := [d1, d2, d3] }
  | _ => none }
def fnExactAnswerNoticeRow : OpenClaim := { program := "ytpaflfaokgapgaa", sum := "d5942437c31e7a7e3674e50134bbf3b77fb421762a964773b97a04cc724aecb4", func := "loop.example/g01010/laws.FnExactAnswerNotice", spec := "fnExactAnswerNotice", unfollowed := true, recurses := true, apart := false }
def FnExactAnswerNoticeSaid : Prop := fnExactAnswerNoticeRow.holds Try.pinned (OpenSpec.ofChange fnExactAnswerNoticeSpec)

/-- ITS FALSE NEIGHBOUR: 'it returns false'. Refute it at one input. -/
def fnExactAnswerNoticeWrong : ChangeSpec := { name := "fnExactAnswerNotice", fn := fun _ => fun
  | [d1, d2, d3] => { results := [.lit (.bool false)], args := [d1, d2, d3] }
  | _ => none }
def FnExactAnswerNoticeWrongFalsely : Prop := fnExactAnswerNoticeRow.holds Try.pinned (OpenSpec.ofChange fnExactAnswerNoticeWrong)

/-- 'laws.FnExactOverdueOn': WHATEVER THE INPUT: true; the input reads as it did. -/
def fnExactOverdueOnSpec : ChangeSpec := { name := "fnExactOverdueOn", fn := fun _ => fun
  | [d1, d2] => { results := [.lit (.bool true)], args := [d1, d2] }
  | _ => none }
def fnExactOverdueOnRow : OpenClaim := { program := "ytpaflfaokgapgaa", sum := "d5942437c31e7a7e3674e50134bbf3b77fb421762a964773b97a04cc724aecb4", func := "loop.example/g01010/laws.FnExactOverdueOn", spec := "fnExactOverdueOn", unfollowed := true, recurses := true, apart := false }
def FnExactOverdueOnSaid : Prop := fnExactOverdueOnRow.holds Try.pinned (OpenSpec.ofChange fnExactOverdueOnSpec)

/-- ITS FALSE NEIGHBOUR: 'it returns false'. Refute it at one input. -/
def fnExactOverdueOnWrong : ChangeSpec := { name := "fnExactOverdueOn", fn := fun _ => fun
  | [d1, d2] => { results := [.lit (.bool false)], args := [d1, d2] }
  | _ => none }
def FnExactOverdueOnWrongFalsely : Prop := fnExactOverdueOnRow.holds Try.pinned (OpenSpec.ofChange fnExactOverdueOnWrong)

/-- 'laws.FnExactSendNotice': WHATEVER THE INPUT: true; the input reads as it did. -/
def fnExactSendNoticeSpec : ChangeSpec := { name := "fnExactSendNotice", fn := fun _ => fun
  | [d1, d2, d3, d4] => { results := [.lit (.bool true)], args := [d1, d2, d3, d4] }
  | _ => none }
def fnExactSendNoticeRow : OpenClaim := { program := "ytpaflfaokgapgaa", sum := "d5942437c31e7a7e3674e50134bbf3b77fb421762a964773b97a04cc724aecb4", func := "loop.example/g01010/laws.FnExactSendNotice", spec := "fnExactSendNotice", unfollowed := true, recurses := true, apart := false }
def FnExactSendNoticeSaid : Prop := fnExactSendNoticeRow.holds Try.pinned (OpenSpec.ofChange fnExactSendNoticeSpec)

/-- ITS FALSE NEIGHBOUR: 'it returns false'. Refute it at one input. -/
def fnExactSendNoticeWrong : ChangeSpec := { name := "fnExactSendNotice", fn := fun _ => fun
  | [d1, d2, d3, d4] => { results := [.lit (.bool false)], args := [d1, d2, d3, d4] }
  | _ => none }
def FnExactSendNoticeWrongFalsely : Prop := fnExactSendNoticeRow.holds Try.pinned (OpenSpec.ofChange fnExactSendNoticeWrong)

/-- 'laws.FnExactOpenParties': WHATEVER THE INPUT: true; the input reads as it did. -/
def fnExactOpenPartiesSpec : ChangeSpec := { name := "fnExactOpenParties", fn := fun _ => fun
  | [d] => { results := [.lit (.bool true)], args := [d] }
  | _ => none }
def fnExactOpenPartiesRow : OpenClaim := { program := "ytpaflfaokgapgaa", sum := "d5942437c31e7a7e3674e50134bbf3b77fb421762a964773b97a04cc724aecb4", func := "loop.example/g01010/laws.FnExactOpenParties", spec := "fnExactOpenParties", unfollowed := true, recurses := true, apart := false }
def FnExactOpenPartiesSaid : Prop := fnExactOpenPartiesRow.holds Try.pinned (OpenSpec.ofChange fnExactOpenPartiesSpec)

/-- ITS FALSE NEIGHBOUR: 'it returns false'. Refute it at one input. -/
def fnExactOpenPartiesWrong : ChangeSpec := { name := "fnExactOpenParties", fn := fun _ => fun
  | [d] => { results := [.lit (.bool false)], args := [d] }
  | _ => none }
def FnExactOpenPartiesWrongFalsely : Prop := fnExactOpenPartiesRow.holds Try.pinned (OpenSpec.ofChange fnExactOpenPartiesWrong)

/-- 'laws.FnExactAddPolicy': WHATEVER THE INPUT: true; the input reads as it did. -/
def fnExactAddPolicySpec : ChangeSpec := { name := "fnExactAddPolicy", fn := fun _ => fun
  | [d1, d2] => { results := [.lit (.bool true)], args := [d1, d2] }
  | _ => none }
def fnExactAddPolicyRow : OpenClaim := { program := "ytpaflfaokgapgaa", sum := "d5942437c31e7a7e3674e50134bbf3b77fb421762a964773b97a04cc724aecb4", func := "loop.example/g01010/laws.FnExactAddPolicy", spec := "fnExactAddPolicy", inPlace := ["internal/bytealg.abigen_runtime_cmpstring", "slices.overlaps[loop.example/g01010/impl.Policy]"], unfollowed := true, recurses := true, apart := false }
def FnExactAddPolicySaid : Prop := fnExactAddPolicyRow.holds Try.pinned (OpenSpec.ofChange fnExactAddPolicySpec)

/-- ITS FALSE NEIGHBOUR: 'it returns false'. Refute it at one input. -/
def fnExactAddPolicyWrong : ChangeSpec := { name := "fnExactAddPolicy", fn := fun _ => fun
  | [d1, d2] => { results := [.lit (.bool false)], args := [d1, d2] }
  | _ => none }
def FnExactAddPolicyWrongFalsely : Prop := fnExactAddPolicyRow.holds Try.pinned (OpenSpec.ofChange fnExactAddPolicyWrong)

/-- 'laws.FnExactAddClaim': WHATEVER THE INPUT: true; the input reads as it did. -/
def fnExactAddClaimSpec : ChangeSpec := { name := "fnExactAddClaim", fn := fun _ => fun
  | [d1, d2] => { results := [.lit (.bool true)], args := [d1, d2] }
  | _ => none }
def fnExactAddClaimRow : OpenClaim := { program := "ytpaflfaokgapgaa", sum := "d5942437c31e7a7e3674e50134bbf3b77fb421762a964773b97a04cc724aecb4", func := "loop.example/g01010/laws.FnExactAddClaim", spec := "fnExactAddClaim", inPlace := ["internal/bytealg.abigen_runtime_cmpstring", "slices.overlaps[loop.example/g01010/impl.Claim]"], unfollowed := true, recurses := true, apart := false }
def FnExactAddClaimSaid : Prop := fnExactAddClaimRow.holds Try.pinned (OpenSpec.ofChange fnExactAddClaimSpec)

/-- ITS FALSE NEIGHBOUR: 'it returns false'. Refute it at one input. -/
def fnExactAddClaimWrong : ChangeSpec := { name := "fnExactAddClaim", fn := fun _ => fun
  | [d1, d2] => { results := [.lit (.bool false)], args := [d1, d2] }
  | _ => none }
def FnExactAddClaimWrongFalsely : Prop := fnExactAddClaimRow.holds Try.pinned (OpenSpec.ofChange fnExactAddClaimWrong)

/-- 'laws.FnDeadlines': WHATEVER THE INPUT: true; the input reads as it did. -/
def fnDeadlinesSpec : ChangeSpec := { name := "fnDeadlines", fn := fun _ => fun
  | [d] => { results := [.lit (.bool true)], args := [d] }
  | _ => none }
def fnDeadlinesRow : OpenClaim := { program := "ytpaflfaokgapgaa", sum := "d5942437c31e7a7e3674e50134bbf3b77fb421762a964773b97a04cc724aecb4", func := "loop.example/g01010/laws.FnDeadlines", spec := "fnDeadlines", unfollowed := true, recurses := true, apart := false }
def FnDeadlinesSaid : Prop := fnDeadlinesRow.holds Try.pinned (OpenSpec.ofChange fnDeadlinesSpec)

/-- ITS FALSE NEIGHBOUR: 'it returns false'. Refute it at one input. -/
def fnDeadlinesWrong : ChangeSpec := { name := "fnDeadlines", fn := fun _ => fun
  | [d] => { results := [.lit (.bool false)], args := [d] }
  | _ => none }
def FnDeadlinesWrongFalsely : Prop := fnDeadlinesRow.holds Try.pinned (OpenSpec.ofChange fnDeadlinesWrong)

/- THE SECOND FORM. 'bulk': how many values and letters a reading holds, each counted each time it is reached (what is shared counts as often as it is met; a slice's spare places count too). A statement '..UptoSaid' is the law's where the arguments, and the package variables that the reading takes, are together of bulk at most 1048576: NARROWER than '..Said'. Prove '..Said' where nothing that the law and all that it calls make is longer than what came in: it says more and counts as full. Else prove '..UptoSaid'. A law counts once. -/
mutual
def uptoBulk {H : Type} : DataW H → Nat
  | .lit (.string bytes) => bytes.length + 1
  | .lit _ => 1
  | .nil => 1
  | .ptr d => uptoBulk d + 1
  | .slice elems spare => uptoBulkAll elems + uptoBulkAll spare + 1
  | .agg parts => uptoBulkAll parts + 1
  | .iface _ d => uptoBulk d + 1
  | .map entries => uptoBulkEntries entries + 1
  | .held _ => 1
def uptoBulkAll {H : Type} : List (DataW H) → Nat
  | [] => 0
  | d :: r => uptoBulk d + uptoBulkAll r
def uptoBulkEntries {H : Type} : List (Lit × DataW H) → Nat
  | [] => 0
  | x :: r => uptoBulkEntry x + uptoBulkEntries r
def uptoBulkEntry {H : Type} : Lit × DataW H → Nat
  | (.string bytes, d) => bytes.length + uptoBulk d + 1
  | (_, d) => uptoBulk d + 1
 end
def uptoSmall : (H : Type) → List (DataW H) → Bool := fun _ ds => decide (uptoBulkAll ds ≤ 1048576)
def OpenSpec.upto (s : _root_.Go.ChangeSpec) : _root_.Go.OpenSpec := { _root_.Go.OpenSpec.ofChange s with cond := some uptoSmall }

/-- 'laws.FnExactIsDiary', WHERE WHAT IT READS IS OF BULK AT MOST 1048576: true; the input reads as it did. -/
def fnExactIsDiaryUptoRow : OpenClaim := { program := "ytpaflfaokgapgaa", sum := "d5942437c31e7a7e3674e50134bbf3b77fb421762a964773b97a04cc724aecb4", func := "loop.example/g01010/laws.FnExactIsDiary", spec := "fnExactIsDiary", unfollowed := true, recurses := true, apart := false, narrowed := true }
def FnExactIsDiaryUptoSaid : Prop := fnExactIsDiaryUptoRow.holds Try.pinned (OpenSpec.upto fnExactIsDiarySpec)

/-- 'laws.FnExactDueDay', WHERE WHAT IT READS IS OF BULK AT MOST 1048576: true; the input reads as it did. -/
def fnExactDueDayUptoRow : OpenClaim := { program := "ytpaflfaokgapgaa", sum := "d5942437c31e7a7e3674e50134bbf3b77fb421762a964773b97a04cc724aecb4", func := "loop.example/g01010/laws.FnExactDueDay", spec := "fnExactDueDay", unfollowed := true, recurses := true, apart := false, narrowed := true }
def FnExactDueDayUptoSaid : Prop := fnExactDueDayUptoRow.holds Try.pinned (OpenSpec.upto fnExactDueDaySpec)

/-- 'laws.FnExactNextAction', WHERE WHAT IT READS IS OF BULK AT MOST 1048576: true; the input reads as it did. -/
def fnExactNextActionUptoRow : OpenClaim := { program := "ytpaflfaokgapgaa", sum := "d5942437c31e7a7e3674e50134bbf3b77fb421762a964773b97a04cc724aecb4", func := "loop.example/g01010/laws.FnExactNextAction", spec := "fnExactNextAction", unfollowed := true, recurses := true, apart := false, narrowed := true }
def FnExactNextActionUptoSaid : Prop := fnExactNextActionUptoRow.holds Try.pinned (OpenSpec.upto fnExactNextActionSpec)

/-- 'laws.FnExactStageOn', WHERE WHAT IT READS IS OF BULK AT MOST 1048576: true; the input reads as it did. -/
def fnExactStageOnUptoRow : OpenClaim := { program := "ytpaflfaokgapgaa", sum := "d5942437c31e7a7e3674e50134bbf3b77fb421762a964773b97a04cc724aecb4", func := "loop.example/g01010/laws.FnExactStageOn", spec := "fnExactStageOn", unfollowed := true, recurses := true, apart := false, narrowed := true }
def FnExactStageOnUptoSaid : Prop := fnExactStageOnUptoRow.holds Try.pinned (OpenSpec.upto fnExactStageOnSpec)

/-- 'laws.FnExactReminderDays', WHERE WHAT IT READS IS OF BULK AT MOST 1048576: true; the input reads as it did. -/
def fnExactReminderDaysUptoRow : OpenClaim := { program := "ytpaflfaokgapgaa", sum := "d5942437c31e7a7e3674e50134bbf3b77fb421762a964773b97a04cc724aecb4", func := "loop.example/g01010/laws.FnExactReminderDays", spec := "fnExactReminderDays", unfollowed := true, recurses := true, apart := false, narrowed := true }
def FnExactReminderDaysUptoSaid : Prop := fnExactReminderDaysUptoRow.holds Try.pinned (OpenSpec.upto fnExactReminderDaysSpec)

/-- 'laws.FnExactAnswerNotice', WHERE WHAT IT READS IS OF BULK AT MOST 1048576: true; the input reads as it did. -/
def fnExactAnswerNoticeUptoRow : OpenClaim := { program := "ytpaflfaokgapgaa", sum := "d5942437c31e7a7e3674e50134bbf3b77fb421762a964773b97a04cc724aecb4", func := "loop.example/g01010/laws.FnExactAnswerNotice", spec := "fnExactAnswerNotice", unfollowed := true, recurses := true, apart := false, narrowed := true }
def FnExactAnswerNoticeUptoSaid : Prop := fnExactAnswerNoticeUptoRow.holds Try.pinned (OpenSpec.upto fnExactAnswerNoticeSpec)

/-- 'laws.FnExactOverdueOn', WHERE WHAT IT READS IS OF BULK AT MOST 1048576: true; the input reads as it did. -/
def fnExactOverdueOnUptoRow : OpenClaim := { program := "ytpaflfaokgapgaa", sum := "d5942437c31e7a7e3674e50134bbf3b77fb421762a964773b97a04cc724aecb4", func := "loop.example/g01010/laws.FnExactOverdueOn", spec := "fnExactOverdueOn", unfollowed := true, recurses := true, apart := false, narrowed := true }
def FnExactOverdueOnUptoSaid : Prop := fnExactOverdueOnUptoRow.holds Try.pinned (OpenSpec.upto fnExactOverdueOnSpec)

/-- 'laws.FnExactSendNotice', WHERE WHAT IT READS IS OF BULK AT MOST 1048576: true; the input reads as it did. -/
def fnExactSendNoticeUptoRow : OpenClaim := { program := "ytpaflfaokgapgaa", sum := "d5942437c31e7a7e3674e50134bbf3b77fb421762a964773b97a04cc724aecb4", func := "loop.example/g01010/laws.FnExactSendNotice", spec := "fnExactSendNotice", unfollowed := true, recurses := true, apart := false, narrowed := true }
def FnExactSendNoticeUptoSaid : Prop := fnExactSendNoticeUptoRow.holds Try.pinned (OpenSpec.upto fnExactSendNoticeSpec)

/-- 'laws.FnExactOpenParties', WHERE WHAT IT READS IS OF BULK AT MOST 1048576: true; the input reads as it did. -/
def fnExactOpenPartiesUptoRow : OpenClaim := { program := "ytpaflfaokgapgaa", sum := "d5942437c31e7a7e3674e50134bbf3b77fb421762a964773b97a04cc724aecb4", func := "loop.example/g01010/laws.FnExactOpenParties", spec := "fnExactOpenParties", unfollowed := true, recurses := true, apart := false, narrowed := true }
def FnExactOpenPartiesUptoSaid : Prop := fnExactOpenPartiesUptoRow.holds Try.pinned (OpenSpec.upto fnExactOpenPartiesSpec)

/-- 'laws.FnExactAddPolicy', WHERE WHAT IT READS IS OF BULK AT MOST 1048576: true; the input reads as it did. -/
def fnExactAddPolicyUptoRow : OpenClaim := { program := "ytpaflfaokgapgaa", sum := "d5942437c31e7a7e3674e50134bbf3b77fb421762a964773b97a04cc724aecb4", func := "loop.example/g01010/laws.FnExactAddPolicy", spec := "fnExactAddPolicy", inPlace := ["internal/bytealg.abigen_runtime_cmpstring", "slices.overlaps[loop.example/g01010/impl.Policy]"], unfollowed := true, recurses := true, apart := false, narrowed := true }
def FnExactAddPolicyUptoSaid : Prop := fnExactAddPolicyUptoRow.holds Try.pinned (OpenSpec.upto fnExactAddPolicySpec)

/-- 'laws.FnExactAddClaim', WHERE WHAT IT READS IS OF BULK AT MOST 1048576: true; the input reads as it did. -/
def fnExactAddClaimUptoRow : OpenClaim := { program := "ytpaflfaokgapgaa", sum := "d5942437c31e7a7e3674e50134bbf3b77fb421762a964773b97a04cc724aecb4", func := "loop.example/g01010/laws.FnExactAddClaim", spec := "fnExactAddClaim", inPlace := ["internal/bytealg.abigen_runtime_cmpstring", "slices.overlaps[loop.example/g01010/impl.Claim]"], unfollowed := true, recurses := true, apart := false, narrowed := true }
def FnExactAddClaimUptoSaid : Prop := fnExactAddClaimUptoRow.holds Try.pinned (OpenSpec.upto fnExactAddClaimSpec)

/-- 'laws.FnDeadlines', WHERE WHAT IT READS IS OF BULK AT MOST 1048576: true; the input reads as it did. -/
def fnDeadlinesUptoRow : OpenClaim := { program := "ytpaflfaokgapgaa", sum := "d5942437c31e7a7e3674e50134bbf3b77fb421762a964773b97a04cc724aecb4", func := "loop.example/g01010/laws.FnDeadlines", spec := "fnDeadlines", unfollowed := true, recurses := true, apart := false, narrowed := true }
def FnDeadlinesUptoSaid : Prop := fnDeadlinesUptoRow.holds Try.pinned (OpenSpec.upto fnDeadlinesSpec)

end Rows
end Go.Proofs.Ytpaflfaokgapgaa
