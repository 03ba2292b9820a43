/-
  No cell of these rows narrows 'for every input' (looked for: loops, veiled, ifaces, maps, wideKeys, modest, calm, conditions, laid).
  DERIVED. THE GIVEN ROWS OF THIS SEAT. 12 by the template 'for every input the law returns true; each argument reads behind the call as it read before'; 0 by the template 'total and deterministic' (their statements: YtcbijbckbloadaaTotals.lean).
  GIVEN WITH THE SEED: the statements are not yours to turn. If you find one false, say at which input.
  Laid BY PROGRAM, IN A SANDBOX (cutbox-rows.mjs): the forced cells as the released guide's own fill.sh prints them over the translation 473a56249c9f2ca9… (all of the seat's roots in one cut). By AI agents, Wed Nov 11 2026. No macro, syntax, notation, axiom, sorry.
-/
import Derived.Test.YtcbijbckbloadaaChecked
import GoSem.Claim
import GoSem.ClaimJoined
import GoSem.ClaimMapViews
import Derived.JoinedTies
import Derived.KernelRfl
namespace Go.Proofs.Ytcbijbckbloadaa
/- THE CELL 'sum', in the pinned program and in every row, IS THE sha256 OF THE DUMP (.gsa) THAT YtcbijbckbloadaaProg.lean LOADS. Nothing in Lean hashes anything: it is a label: what it is worth is what the hold of that sum in a sandbox is worth. -/
noncomputable def Try.pinned : Pinned := { name := "ytcbijbckbloadaa", sum := "473a56249c9f2ca94919ce1b000df4cb086ad05c3ba59528c729a17f1449d364", checked := Try.checked }
namespace Rows
def none {H : Type} : Left H := { results := [], args := [] }

/-- 'laws.FnExactFundFor': WHATEVER THE INPUT: true; the input reads as it did. -/
def fnExactFundForSpec : ChangeSpec := { name := "fnExactFundFor", fn := fun _ => fun
  | [d1, d2] => { results := [.lit (.bool true)], args := [d1, d2] }
  | _ => none }
def fnExactFundForRow : OpenClaim := { program := "ytcbijbckbloadaa", sum := "473a56249c9f2ca94919ce1b000df4cb086ad05c3ba59528c729a17f1449d364", func := "loop.example/g01010/laws.FnExactFundFor", spec := "fnExactFundFor", apart := false }
def FnExactFundForSaid : Prop := fnExactFundForRow.holds Try.pinned (OpenSpec.ofChange fnExactFundForSpec)

/-- ITS FALSE NEIGHBOUR: 'it returns false'. Refute it at one input. -/
def fnExactFundForWrong : ChangeSpec := { name := "fnExactFundFor", fn := fun _ => fun
  | [d1, d2] => { results := [.lit (.bool false)], args := [d1, d2] }
  | _ => none }
def FnExactFundForWrongFalsely : Prop := fnExactFundForRow.holds Try.pinned (OpenSpec.ofChange fnExactFundForWrong)

/-- 'laws.FnExactAreSecurities': WHATEVER THE INPUT: true; the input reads as it did. -/
def fnExactAreSecuritiesSpec : ChangeSpec := { name := "fnExactAreSecurities", fn := fun _ => fun
  | [d] => { results := [.lit (.bool true)], args := [d] }
  | _ => none }
def fnExactAreSecuritiesRow : OpenClaim := { program := "ytcbijbckbloadaa", sum := "473a56249c9f2ca94919ce1b000df4cb086ad05c3ba59528c729a17f1449d364", func := "loop.example/g01010/laws.FnExactAreSecurities", spec := "fnExactAreSecurities", unfollowed := true, recurses := true, apart := false }
def FnExactAreSecuritiesSaid : Prop := fnExactAreSecuritiesRow.holds Try.pinned (OpenSpec.ofChange fnExactAreSecuritiesSpec)

/-- ITS FALSE NEIGHBOUR: 'it returns false'. Refute it at one input. -/
def fnExactAreSecuritiesWrong : ChangeSpec := { name := "fnExactAreSecurities", fn := fun _ => fun
  | [d] => { results := [.lit (.bool false)], args := [d] }
  | _ => none }
def FnExactAreSecuritiesWrongFalsely : Prop := fnExactAreSecuritiesRow.holds Try.pinned (OpenSpec.ofChange fnExactAreSecuritiesWrong)

/-- 'laws.FnExactAreDemands': WHATEVER THE INPUT: true; the input reads as it did. -/
def fnExactAreDemandsSpec : ChangeSpec := { name := "fnExactAreDemands", fn := fun _ => fun
  | [d] => { results := [.lit (.bool true)], args := [d] }
  | _ => none }
def fnExactAreDemandsRow : OpenClaim := { program := "ytcbijbckbloadaa", sum := "473a56249c9f2ca94919ce1b000df4cb086ad05c3ba59528c729a17f1449d364", func := "loop.example/g01010/laws.FnExactAreDemands", spec := "fnExactAreDemands", inPlace := ["internal/bytealg.abigen_runtime_cmpstring"], unfollowed := true, recurses := true, apart := false }
def FnExactAreDemandsSaid : Prop := fnExactAreDemandsRow.holds Try.pinned (OpenSpec.ofChange fnExactAreDemandsSpec)

/-- ITS FALSE NEIGHBOUR: 'it returns false'. Refute it at one input. -/
def fnExactAreDemandsWrong : ChangeSpec := { name := "fnExactAreDemands", fn := fun _ => fun
  | [d] => { results := [.lit (.bool false)], args := [d] }
  | _ => none }
def FnExactAreDemandsWrongFalsely : Prop := fnExactAreDemandsRow.holds Try.pinned (OpenSpec.ofChange fnExactAreDemandsWrong)

/-- 'laws.FnExactIsCover': WHATEVER THE INPUT: true; the input reads as it did. -/
def fnExactIsCoverSpec : ChangeSpec := { name := "fnExactIsCover", fn := fun _ => fun
  | [d] => { results := [.lit (.bool true)], args := [d] }
  | _ => none }
def fnExactIsCoverRow : OpenClaim := { program := "ytcbijbckbloadaa", sum := "473a56249c9f2ca94919ce1b000df4cb086ad05c3ba59528c729a17f1449d364", func := "loop.example/g01010/laws.FnExactIsCover", spec := "fnExactIsCover", inPlace := ["internal/bytealg.abigen_runtime_cmpstring"], unfollowed := true, recurses := true, apart := false }
def FnExactIsCoverSaid : Prop := fnExactIsCoverRow.holds Try.pinned (OpenSpec.ofChange fnExactIsCoverSpec)

/-- ITS FALSE NEIGHBOUR: 'it returns false'. Refute it at one input. -/
def fnExactIsCoverWrong : ChangeSpec := { name := "fnExactIsCover", fn := fun _ => fun
  | [d] => { results := [.lit (.bool false)], args := [d] }
  | _ => none }
def FnExactIsCoverWrongFalsely : Prop := fnExactIsCoverRow.holds Try.pinned (OpenSpec.ofChange fnExactIsCoverWrong)

/-- 'laws.FnExactAreClaims': WHATEVER THE INPUT: true; the input reads as it did. -/
def fnExactAreClaimsSpec : ChangeSpec := { name := "fnExactAreClaims", fn := fun _ => fun
  | [d] => { results := [.lit (.bool true)], args := [d] }
  | _ => none }
def fnExactAreClaimsRow : OpenClaim := { program := "ytcbijbckbloadaa", sum := "473a56249c9f2ca94919ce1b000df4cb086ad05c3ba59528c729a17f1449d364", func := "loop.example/g01010/laws.FnExactAreClaims", spec := "fnExactAreClaims", inPlace := ["internal/bytealg.abigen_runtime_cmpstring"], unfollowed := true, recurses := true, apart := false }
def FnExactAreClaimsSaid : Prop := fnExactAreClaimsRow.holds Try.pinned (OpenSpec.ofChange fnExactAreClaimsSpec)

/-- ITS FALSE NEIGHBOUR: 'it returns false'. Refute it at one input. -/
def fnExactAreClaimsWrong : ChangeSpec := { name := "fnExactAreClaims", fn := fun _ => fun
  | [d] => { results := [.lit (.bool false)], args := [d] }
  | _ => none }
def FnExactAreClaimsWrongFalsely : Prop := fnExactAreClaimsRow.holds Try.pinned (OpenSpec.ofChange fnExactAreClaimsWrong)

/-- 'laws.FnExactGivenSecurity': WHATEVER THE INPUT: true; the input reads as it did. -/
def fnExactGivenSecuritySpec : ChangeSpec := { name := "fnExactGivenSecurity", fn := fun _ => fun
  | [d1, d2] => { results := [.lit (.bool true)], args := [d1, d2] }
  | _ => none }
def fnExactGivenSecurityRow : OpenClaim := { program := "ytcbijbckbloadaa", sum := "473a56249c9f2ca94919ce1b000df4cb086ad05c3ba59528c729a17f1449d364", func := "loop.example/g01010/laws.FnExactGivenSecurity", spec := "fnExactGivenSecurity", unfollowed := true, recurses := true, apart := false }
def FnExactGivenSecuritySaid : Prop := fnExactGivenSecurityRow.holds Try.pinned (OpenSpec.ofChange fnExactGivenSecuritySpec)

/-- ITS FALSE NEIGHBOUR: 'it returns false'. Refute it at one input. -/
def fnExactGivenSecurityWrong : ChangeSpec := { name := "fnExactGivenSecurity", fn := fun _ => fun
  | [d1, d2] => { results := [.lit (.bool false)], args := [d1, d2] }
  | _ => none }
def FnExactGivenSecurityWrongFalsely : Prop := fnExactGivenSecurityRow.holds Try.pinned (OpenSpec.ofChange fnExactGivenSecurityWrong)

/-- 'laws.FnExactBestSalvor': WHATEVER THE INPUT: true; the input reads as it did. -/
def fnExactBestSalvorSpec : ChangeSpec := { name := "fnExactBestSalvor", fn := fun _ => fun
  | [d] => { results := [.lit (.bool true)], args := [d] }
  | _ => none }
def fnExactBestSalvorRow : OpenClaim := { program := "ytcbijbckbloadaa", sum := "473a56249c9f2ca94919ce1b000df4cb086ad05c3ba59528c729a17f1449d364", func := "loop.example/g01010/laws.FnExactBestSalvor", spec := "fnExactBestSalvor", inPlace := ["internal/bytealg.abigen_runtime_cmpstring"], unfollowed := true, recurses := true, apart := false }
def FnExactBestSalvorSaid : Prop := fnExactBestSalvorRow.holds Try.pinned (OpenSpec.ofChange fnExactBestSalvorSpec)

/-- ITS FALSE NEIGHBOUR: 'it returns false'. Refute it at one input. -/
def fnExactBestSalvorWrong : ChangeSpec := { name := "fnExactBestSalvor", fn := fun _ => fun
  | [d] => { results := [.lit (.bool false)], args := [d] }
  | _ => none }
def FnExactBestSalvorWrongFalsely : Prop := fnExactBestSalvorRow.holds Try.pinned (OpenSpec.ofChange fnExactBestSalvorWrong)

/-- 'laws.FnExactFundUpTo': WHATEVER THE INPUT: true; the input reads as it did. -/
def fnExactFundUpToSpec : ChangeSpec := { name := "fnExactFundUpTo", fn := fun _ => fun
  | [d1, d2] => { results := [.lit (.bool true)], args := [d1, d2] }
  | _ => none }
def fnExactFundUpToRow : OpenClaim := { program := "ytcbijbckbloadaa", sum := "473a56249c9f2ca94919ce1b000df4cb086ad05c3ba59528c729a17f1449d364", func := "loop.example/g01010/laws.FnExactFundUpTo", spec := "fnExactFundUpTo", inPlace := ["internal/bytealg.abigen_runtime_cmpstring"], unfollowed := true, recurses := true, apart := false }
def FnExactFundUpToSaid : Prop := fnExactFundUpToRow.holds Try.pinned (OpenSpec.ofChange fnExactFundUpToSpec)

/-- ITS FALSE NEIGHBOUR: 'it returns false'. Refute it at one input. -/
def fnExactFundUpToWrong : ChangeSpec := { name := "fnExactFundUpTo", fn := fun _ => fun
  | [d1, d2] => { results := [.lit (.bool false)], args := [d1, d2] }
  | _ => none }
def FnExactFundUpToWrongFalsely : Prop := fnExactFundUpToRow.holds Try.pinned (OpenSpec.ofChange fnExactFundUpToWrong)

/-- 'laws.FnExactMeritOf': WHATEVER THE INPUT: true; the input reads as it did. -/
def fnExactMeritOfSpec : ChangeSpec := { name := "fnExactMeritOf", fn := fun _ => fun
  | [d1, d2] => { results := [.lit (.bool true)], args := [d1, d2] }
  | _ => none }
def fnExactMeritOfRow : OpenClaim := { program := "ytcbijbckbloadaa", sum := "473a56249c9f2ca94919ce1b000df4cb086ad05c3ba59528c729a17f1449d364", func := "loop.example/g01010/laws.FnExactMeritOf", spec := "fnExactMeritOf", inPlace := ["internal/bytealg.abigen_runtime_cmpstring"], unfollowed := true, recurses := true, apart := false }
def FnExactMeritOfSaid : Prop := fnExactMeritOfRow.holds Try.pinned (OpenSpec.ofChange fnExactMeritOfSpec)

/-- ITS FALSE NEIGHBOUR: 'it returns false'. Refute it at one input. -/
def fnExactMeritOfWrong : ChangeSpec := { name := "fnExactMeritOf", fn := fun _ => fun
  | [d1, d2] => { results := [.lit (.bool false)], args := [d1, d2] }
  | _ => none }
def FnExactMeritOfWrongFalsely : Prop := fnExactMeritOfRow.holds Try.pinned (OpenSpec.ofChange fnExactMeritOfWrong)

/-- 'laws.FnExactTotalsByKind': WHATEVER THE INPUT: true; the input reads as it did. -/
def fnExactTotalsByKindSpec : ChangeSpec := { name := "fnExactTotalsByKind", fn := fun _ => fun
  | [d] => { results := [.lit (.bool true)], args := [d] }
  | _ => none }
def fnExactTotalsByKindRow : OpenClaim := { program := "ytcbijbckbloadaa", sum := "473a56249c9f2ca94919ce1b000df4cb086ad05c3ba59528c729a17f1449d364", func := "loop.example/g01010/laws.FnExactTotalsByKind", spec := "fnExactTotalsByKind", unfollowed := true, recurses := true, apart := false }
def FnExactTotalsByKindSaid : Prop := fnExactTotalsByKindRow.holds Try.pinned (OpenSpec.ofChange fnExactTotalsByKindSpec)

/-- ITS FALSE NEIGHBOUR: 'it returns false'. Refute it at one input. -/
def fnExactTotalsByKindWrong : ChangeSpec := { name := "fnExactTotalsByKind", fn := fun _ => fun
  | [d] => { results := [.lit (.bool false)], args := [d] }
  | _ => none }
def FnExactTotalsByKindWrongFalsely : Prop := fnExactTotalsByKindRow.holds Try.pinned (OpenSpec.ofChange fnExactTotalsByKindWrong)

/-- 'laws.FnExactCostsCovered': WHATEVER THE INPUT: true; the input reads as it did. -/
def fnExactCostsCoveredSpec : ChangeSpec := { name := "fnExactCostsCovered", fn := fun _ => fun
  | [d1, d2] => { results := [.lit (.bool true)], args := [d1, d2] }
  | _ => none }
def fnExactCostsCoveredRow : OpenClaim := { program := "ytcbijbckbloadaa", sum := "473a56249c9f2ca94919ce1b000df4cb086ad05c3ba59528c729a17f1449d364", func := "loop.example/g01010/laws.FnExactCostsCovered", spec := "fnExactCostsCovered", inPlace := ["internal/bytealg.abigen_runtime_cmpstring"], unfollowed := true, recurses := true, apart := false }
def FnExactCostsCoveredSaid : Prop := fnExactCostsCoveredRow.holds Try.pinned (OpenSpec.ofChange fnExactCostsCoveredSpec)

/-- ITS FALSE NEIGHBOUR: 'it returns false'. Refute it at one input. -/
def fnExactCostsCoveredWrong : ChangeSpec := { name := "fnExactCostsCovered", fn := fun _ => fun
  | [d1, d2] => { results := [.lit (.bool false)], args := [d1, d2] }
  | _ => none }
def FnExactCostsCoveredWrongFalsely : Prop := fnExactCostsCoveredRow.holds Try.pinned (OpenSpec.ofChange fnExactCostsCoveredWrong)

/-- 'laws.FnExactIsDiary': WHATEVER THE INPUT: true; the input reads as it did. -/
def fnExactIsDiarySpec : ChangeSpec := { name := "fnExactIsDiary", fn := fun _ => fun
  | [d] => { results := [.lit (.bool true)], args := [d] }
  | _ => none }
def fnExactIsDiaryRow : OpenClaim := { program := "ytcbijbckbloadaa", sum := "473a56249c9f2ca94919ce1b000df4cb086ad05c3ba59528c729a17f1449d364", func := "loop.example/g01010/laws.FnExactIsDiary", spec := "fnExactIsDiary", unfollowed := true, recurses := true, apart := false }
def FnExactIsDiarySaid : Prop := fnExactIsDiaryRow.holds Try.pinned (OpenSpec.ofChange fnExactIsDiarySpec)

/-- ITS FALSE NEIGHBOUR: 'it returns false'. Refute it at one input. -/
def fnExactIsDiaryWrong : ChangeSpec := { name := "fnExactIsDiary", fn := fun _ => fun
  | [d] => { results := [.lit (.bool false)], args := [d] }
  | _ => none }
def FnExactIsDiaryWrongFalsely : Prop := fnExactIsDiaryRow.holds Try.pinned (OpenSpec.ofChange fnExactIsDiaryWrong)

/- THE SECOND FORM. 'bulk': how many values and letters a reading holds, each counted each time it is reached (what is shared counts as often as it is met; a slice's spare places count too). A statement '..UptoSaid' is the law's where the arguments, and the package variables that the reading takes, are together of bulk at most 1048576: NARROWER than '..Said'. Prove '..Said' where nothing that the law and all that it calls make is longer than what came in: it says more and counts as full. Else prove '..UptoSaid'. A law counts once. -/
mutual
def uptoBulk {H : Type} : DataW H → Nat
  | .lit (.string bytes) => bytes.length + 1
  | .lit _ => 1
  | .nil => 1
  | .ptr d => uptoBulk d + 1
  | .slice elems spare => uptoBulkAll elems + uptoBulkAll spare + 1
  | .agg parts => uptoBulkAll parts + 1
  | .iface _ d => uptoBulk d + 1
  | .map entries => uptoBulkEntries entries + 1
  | .held _ => 1
def uptoBulkAll {H : Type} : List (DataW H) → Nat
  | [] => 0
  | d :: r => uptoBulk d + uptoBulkAll r
def uptoBulkEntries {H : Type} : List (Lit × DataW H) → Nat
  | [] => 0
  | x :: r => uptoBulkEntry x + uptoBulkEntries r
def uptoBulkEntry {H : Type} : Lit × DataW H → Nat
  | (.string bytes, d) => bytes.length + uptoBulk d + 1
  | (_, d) => uptoBulk d + 1
 end
def uptoSmall : (H : Type) → List (DataW H) → Bool := fun _ ds => decide (uptoBulkAll ds ≤ 1048576)
def OpenSpec.upto (s : _root_.Go.ChangeSpec) : _root_.Go.OpenSpec := { _root_.Go.OpenSpec.ofChange s with cond := some uptoSmall }

/-- 'laws.FnExactFundFor', WHERE WHAT IT READS IS OF BULK AT MOST 1048576: true; the input reads as it did. -/
def fnExactFundForUptoRow : OpenClaim := { program := "ytcbijbckbloadaa", sum := "473a56249c9f2ca94919ce1b000df4cb086ad05c3ba59528c729a17f1449d364", func := "loop.example/g01010/laws.FnExactFundFor", spec := "fnExactFundFor", apart := false, narrowed := true }
def FnExactFundForUptoSaid : Prop := fnExactFundForUptoRow.holds Try.pinned (OpenSpec.upto fnExactFundForSpec)

/-- 'laws.FnExactAreSecurities', WHERE WHAT IT READS IS OF BULK AT MOST 1048576: true; the input reads as it did. -/
def fnExactAreSecuritiesUptoRow : OpenClaim := { program := "ytcbijbckbloadaa", sum := "473a56249c9f2ca94919ce1b000df4cb086ad05c3ba59528c729a17f1449d364", func := "loop.example/g01010/laws.FnExactAreSecurities", spec := "fnExactAreSecurities", unfollowed := true, recurses := true, apart := false, narrowed := true }
def FnExactAreSecuritiesUptoSaid : Prop := fnExactAreSecuritiesUptoRow.holds Try.pinned (OpenSpec.upto fnExactAreSecuritiesSpec)

/-- 'laws.FnExactAreDemands', WHERE WHAT IT READS IS OF BULK AT MOST 1048576: true; the input reads as it did. -/
def fnExactAreDemandsUptoRow : OpenClaim := { program := "ytcbijbckbloadaa", sum := "473a56249c9f2ca94919ce1b000df4cb086ad05c3ba59528c729a17f1449d364", func := "loop.example/g01010/laws.FnExactAreDemands", spec := "fnExactAreDemands", inPlace := ["internal/bytealg.abigen_runtime_cmpstring"], unfollowed := true, recurses := true, apart := false, narrowed := true }
def FnExactAreDemandsUptoSaid : Prop := fnExactAreDemandsUptoRow.holds Try.pinned (OpenSpec.upto fnExactAreDemandsSpec)

/-- 'laws.FnExactIsCover', WHERE WHAT IT READS IS OF BULK AT MOST 1048576: true; the input reads as it did. -/
def fnExactIsCoverUptoRow : OpenClaim := { program := "ytcbijbckbloadaa", sum := "473a56249c9f2ca94919ce1b000df4cb086ad05c3ba59528c729a17f1449d364", func := "loop.example/g01010/laws.FnExactIsCover", spec := "fnExactIsCover", inPlace := ["internal/bytealg.abigen_runtime_cmpstring"], unfollowed := true, recurses := true, apart := false, narrowed := true }
def FnExactIsCoverUptoSaid : Prop := fnExactIsCoverUptoRow.holds Try.pinned (OpenSpec.upto fnExactIsCoverSpec)

/-- 'laws.FnExactAreClaims', WHERE WHAT IT READS IS OF BULK AT MOST 1048576: true; the input reads as it did. -/
def fnExactAreClaimsUptoRow : OpenClaim := { program := "ytcbijbckbloadaa", sum := "473a56249c9f2ca94919ce1b000df4cb086ad05c3ba59528c729a17f1449d364", func := "loop.example/g01010/laws.FnExactAreClaims", spec := "fnExactAreClaims", inPlace := ["internal/bytealg.abigen_runtime_cmpstring"], unfollowed := true, recurses := true, apart := false, narrowed := true }
def FnExactAreClaimsUptoSaid : Prop := fnExactAreClaimsUptoRow.holds Try.pinned (OpenSpec.upto fnExactAreClaimsSpec)

/-- 'laws.FnExactGivenSecurity', WHERE WHAT IT READS IS OF BULK AT MOST 1048576: true; the input reads as it did. -/
def fnExactGivenSecurityUptoRow : OpenClaim := { program := "ytcbijbckbloadaa", sum := "473a56249c9f2ca94919ce1b000df4cb086ad05c3ba59528c729a17f1449d364", func := "loop.example/g01010/laws.FnExactGivenSecurity", spec := "fnExactGivenSecurity", unfollowed := true, recurses := true, apart := false, narrowed := true }
def FnExactGivenSecurityUptoSaid : Prop := fnExactGivenSecurityUptoRow.holds Try.pinned (OpenSpec.upto fnExactGivenSecuritySpec)

/-- 'laws.FnExactBestSalvor', WHERE WHAT IT READS IS OF BULK AT MOST 1048576: true; the input reads as it did. -/
def fnExactBestSalvorUptoRow : OpenClaim := { program := "ytcbijbckbloadaa", sum := "473a56249c9f2ca94919ce1b000df4cb086ad05c3ba59528c729a17f1449d364", func := "loop.example/g01010/laws.FnExactBestSalvor", spec := "fnExactBestSalvor", inPlace := ["internal/bytealg.abigen_runtime_cmpstring"], unfollowed := true, recurses := true, apart := false, narrowed := true }
def FnExactBestSalvorUptoSaid : Prop := fnExactBestSalvorUptoRow.holds Try.pinned (OpenSpec.upto fnExactBestSalvorSpec)

/-- 'laws.FnExactFundUpTo', WHERE WHAT IT READS IS OF BULK AT MOST 1048576: true; the input reads as it did. -/
def fnExactFundUpToUptoRow : OpenClaim := { program := "ytcbijbckbloadaa", sum := "473a56249c9f2ca94919ce1b000df4cb086ad05c3ba59528c729a17f1449d364", func := "loop.example/g01010/laws.FnExactFundUpTo", spec := "fnExactFundUpTo", inPlace := ["internal/bytealg.abigen_runtime_cmpstring"], unfollowed := true, recurses := true, apart := false, narrowed := true }
def FnExactFundUpToUptoSaid : Prop := fnExactFundUpToUptoRow.holds Try.pinned (OpenSpec.upto fnExactFundUpToSpec)

/-- 'laws.FnExactMeritOf', WHERE WHAT IT READS IS OF BULK AT MOST 1048576: true; the input reads as it did. -/
def fnExactMeritOfUptoRow : OpenClaim := { program := "ytcbijbckbloadaa", sum := "473a56249c9f2ca94919ce1b000df4cb086ad05c3ba59528c729a17f1449d364", func := "loop.example/g01010/laws.FnExactMeritOf", spec := "fnExactMeritOf", inPlace := ["internal/bytealg.abigen_runtime_cmpstring"], unfollowed := true, recurses := true, apart := false, narrowed := true }
def FnExactMeritOfUptoSaid : Prop := fnExactMeritOfUptoRow.holds Try.pinned (OpenSpec.upto fnExactMeritOfSpec)

/-- 'laws.FnExactTotalsByKind', WHERE WHAT IT READS IS OF BULK AT MOST 1048576: true; the input reads as it did. -/
def fnExactTotalsByKindUptoRow : OpenClaim := { program := "ytcbijbckbloadaa", sum := "473a56249c9f2ca94919ce1b000df4cb086ad05c3ba59528c729a17f1449d364", func := "loop.example/g01010/laws.FnExactTotalsByKind", spec := "fnExactTotalsByKind", unfollowed := true, recurses := true, apart := false, narrowed := true }
def FnExactTotalsByKindUptoSaid : Prop := fnExactTotalsByKindUptoRow.holds Try.pinned (OpenSpec.upto fnExactTotalsByKindSpec)

/-- 'laws.FnExactCostsCovered', WHERE WHAT IT READS IS OF BULK AT MOST 1048576: true; the input reads as it did. -/
def fnExactCostsCoveredUptoRow : OpenClaim := { program := "ytcbijbckbloadaa", sum := "473a56249c9f2ca94919ce1b000df4cb086ad05c3ba59528c729a17f1449d364", func := "loop.example/g01010/laws.FnExactCostsCovered", spec := "fnExactCostsCovered", inPlace := ["internal/bytealg.abigen_runtime_cmpstring"], unfollowed := true, recurses := true, apart := false, narrowed := true }
def FnExactCostsCoveredUptoSaid : Prop := fnExactCostsCoveredUptoRow.holds Try.pinned (OpenSpec.upto fnExactCostsCoveredSpec)

/-- 'laws.FnExactIsDiary', WHERE WHAT IT READS IS OF BULK AT MOST 1048576: true; the input reads as it did. -/
def fnExactIsDiaryUptoRow : OpenClaim := { program := "ytcbijbckbloadaa", sum := "473a56249c9f2ca94919ce1b000df4cb086ad05c3ba59528c729a17f1449d364", func := "loop.example/g01010/laws.FnExactIsDiary", spec := "fnExactIsDiary", unfollowed := true, recurses := true, apart := false, narrowed := true }
def FnExactIsDiaryUptoSaid : Prop := fnExactIsDiaryUptoRow.holds Try.pinned (OpenSpec.upto fnExactIsDiarySpec)

end Rows
end Go.Proofs.Ytcbijbckbloadaa
