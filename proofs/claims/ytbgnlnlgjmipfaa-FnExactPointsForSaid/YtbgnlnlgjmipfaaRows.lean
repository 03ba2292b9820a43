/-
  No cell of these rows narrows 'for every input' (looked for: loops, veiled, ifaces, maps, wideKeys, modest, calm, conditions, laid).
  DERIVED. THE GIVEN ROWS OF THIS SEAT. 12 by the template 'for every input the law returns true; each argument reads behind the call as it read before'; 0 by the template 'total and deterministic' (their statements: YtbgnlnlgjmipfaaTotals.lean).
  GIVEN WITH THE SEED: the statements are not yours to turn. If you find one false, say at which input.
  Laid BY PROGRAM, IN A SANDBOX (cutbox-rows.mjs): the forced cells as the released guide's own fill.sh prints them over the translation fb50ec29f4f314db… (all of the seat's roots in one cut). By AI agents, Wed Nov 11 2026. No macro, syntax, notation, axiom, sorry.
-/
import Derived.Test.YtbgnlnlgjmipfaaChecked
import GoSem.Claim
import GoSem.ClaimJoined
import GoSem.ClaimMapViews
import Derived.JoinedTies
import Derived.KernelRfl
namespace Go.Proofs.Ytbgnlnlgjmipfaa
/- THE CELL 'sum', in the pinned program and in every row, IS THE sha256 OF THE DUMP (.gsa) THAT YtbgnlnlgjmipfaaProg.lean LOADS. Nothing in Lean hashes anything: it is a label: what it is worth is what the hold of that sum in a sandbox is worth. -/
noncomputable def Try.pinned : Pinned := { name := "ytbgnlnlgjmipfaa", sum := "fb50ec29f4f314dbc56ed65b15a57b52a3596b275f9363d0bdd134d1acf383ab", checked := Try.checked }
namespace Rows
def none {H : Type} : Left H := { results := [], args := [] }

/-- 'laws.FnExactBestSalvor': WHATEVER THE INPUT: true; the input reads as it did. -/
def fnExactBestSalvorSpec : ChangeSpec := { name := "fnExactBestSalvor", fn := fun _ => fun
  | [d] => { results := [.lit (.bool true)], args := [d] }
  | _ => none }
def fnExactBestSalvorRow : OpenClaim := { program := "ytbgnlnlgjmipfaa", sum := "fb50ec29f4f314dbc56ed65b15a57b52a3596b275f9363d0bdd134d1acf383ab", func := "loop.example/g01010/laws.FnExactBestSalvor", spec := "fnExactBestSalvor", inPlace := ["internal/bytealg.abigen_runtime_cmpstring"], unfollowed := true, recurses := true, apart := false }
def FnExactBestSalvorSaid : Prop := fnExactBestSalvorRow.holds Try.pinned (OpenSpec.ofChange fnExactBestSalvorSpec)

/-- ITS FALSE NEIGHBOUR: 'it returns false'. Refute it at one input. -/
def fnExactBestSalvorWrong : ChangeSpec := { name := "fnExactBestSalvor", fn := fun _ => fun
  | [d] => { results := [.lit (.bool false)], args := [d] }
  | _ => none }
def FnExactBestSalvorWrongFalsely : Prop := fnExactBestSalvorRow.holds Try.pinned (OpenSpec.ofChange fnExactBestSalvorWrong)

/-- 'laws.FnExactTotalsByKind': WHATEVER THE INPUT: true; the input reads as it did. -/
def fnExactTotalsByKindSpec : ChangeSpec := { name := "fnExactTotalsByKind", fn := fun _ => fun
  | [d] => { results := [.lit (.bool true)], args := [d] }
  | _ => none }
def fnExactTotalsByKindRow : OpenClaim := { program := "ytbgnlnlgjmipfaa", sum := "fb50ec29f4f314dbc56ed65b15a57b52a3596b275f9363d0bdd134d1acf383ab", func := "loop.example/g01010/laws.FnExactTotalsByKind", spec := "fnExactTotalsByKind", unfollowed := true, recurses := true, apart := false }
def FnExactTotalsByKindSaid : Prop := fnExactTotalsByKindRow.holds Try.pinned (OpenSpec.ofChange fnExactTotalsByKindSpec)

/-- ITS FALSE NEIGHBOUR: 'it returns false'. Refute it at one input. -/
def fnExactTotalsByKindWrong : ChangeSpec := { name := "fnExactTotalsByKind", fn := fun _ => fun
  | [d] => { results := [.lit (.bool false)], args := [d] }
  | _ => none }
def FnExactTotalsByKindWrongFalsely : Prop := fnExactTotalsByKindRow.holds Try.pinned (OpenSpec.ofChange fnExactTotalsByKindWrong)

/-- 'laws.FnExactRemainingSecurities': WHATEVER THE INPUT: true; the input reads as it did. -/
def fnExactRemainingSecuritiesSpec : ChangeSpec := { name := "fnExactRemainingSecurities", fn := fun _ => fun
  | [d1, d2] => { results := [.lit (.bool true)], args := [d1, d2] }
  | _ => none }
def fnExactRemainingSecuritiesRow : OpenClaim := { program := "ytbgnlnlgjmipfaa", sum := "fb50ec29f4f314dbc56ed65b15a57b52a3596b275f9363d0bdd134d1acf383ab", func := "loop.example/g01010/laws.FnExactRemainingSecurities", spec := "fnExactRemainingSecurities", unfollowed := true, recurses := true, apart := false }
def FnExactRemainingSecuritiesSaid : Prop := fnExactRemainingSecuritiesRow.holds Try.pinned (OpenSpec.ofChange fnExactRemainingSecuritiesSpec)

/-- ITS FALSE NEIGHBOUR: 'it returns false'. Refute it at one input. -/
def fnExactRemainingSecuritiesWrong : ChangeSpec := { name := "fnExactRemainingSecurities", fn := fun _ => fun
  | [d1, d2] => { results := [.lit (.bool false)], args := [d1, d2] }
  | _ => none }
def FnExactRemainingSecuritiesWrongFalsely : Prop := fnExactRemainingSecuritiesRow.holds Try.pinned (OpenSpec.ofChange fnExactRemainingSecuritiesWrong)

/-- 'laws.FnExactChangeRank': WHATEVER THE INPUT: true; the input reads as it did. -/
def fnExactChangeRankSpec : ChangeSpec := { name := "fnExactChangeRank", fn := fun _ => fun
  | [d1, d2, d3] => { results := [.lit (.bool true)], args := [d1, d2, d3] }
  | _ => none }
def fnExactChangeRankRow : OpenClaim := { program := "ytbgnlnlgjmipfaa", sum := "fb50ec29f4f314dbc56ed65b15a57b52a3596b275f9363d0bdd134d1acf383ab", func := "loop.example/g01010/laws.FnExactChangeRank", spec := "fnExactChangeRank", inPlace := ["internal/bytealg.abigen_runtime_cmpstring"], unfollowed := true, recurses := true, apart := false }
def FnExactChangeRankSaid : Prop := fnExactChangeRankRow.holds Try.pinned (OpenSpec.ofChange fnExactChangeRankSpec)

/-- ITS FALSE NEIGHBOUR: 'it returns false'. Refute it at one input. -/
def fnExactChangeRankWrong : ChangeSpec := { name := "fnExactChangeRank", fn := fun _ => fun
  | [d1, d2, d3] => { results := [.lit (.bool false)], args := [d1, d2, d3] }
  | _ => none }
def FnExactChangeRankWrongFalsely : Prop := fnExactChangeRankRow.holds Try.pinned (OpenSpec.ofChange fnExactChangeRankWrong)

/-- 'laws.FnExactPayFromSecurities': WHATEVER THE INPUT: true; the input reads as it did. -/
def fnExactPayFromSecuritiesSpec : ChangeSpec := { name := "fnExactPayFromSecurities", fn := fun _ => fun
  | [d1, d2, d3] => { results := [.lit (.bool true)], args := [d1, d2, d3] }
  | _ => none }
def fnExactPayFromSecuritiesRow : OpenClaim := { program := "ytbgnlnlgjmipfaa", sum := "fb50ec29f4f314dbc56ed65b15a57b52a3596b275f9363d0bdd134d1acf383ab", func := "loop.example/g01010/laws.FnExactPayFromSecurities", spec := "fnExactPayFromSecurities", unfollowed := true, recurses := true, apart := false }
def FnExactPayFromSecuritiesSaid : Prop := fnExactPayFromSecuritiesRow.holds Try.pinned (OpenSpec.ofChange fnExactPayFromSecuritiesSpec)

/-- ITS FALSE NEIGHBOUR: 'it returns false'. Refute it at one input. -/
def fnExactPayFromSecuritiesWrong : ChangeSpec := { name := "fnExactPayFromSecurities", fn := fun _ => fun
  | [d1, d2, d3] => { results := [.lit (.bool false)], args := [d1, d2, d3] }
  | _ => none }
def FnExactPayFromSecuritiesWrongFalsely : Prop := fnExactPayFromSecuritiesRow.holds Try.pinned (OpenSpec.ofChange fnExactPayFromSecuritiesWrong)

/-- 'laws.FnExactSafeFund': WHATEVER THE INPUT: true; the input reads as it did. -/
def fnExactSafeFundSpec : ChangeSpec := { name := "fnExactSafeFund", fn := fun _ => fun
  | [d1, d2, d3] => { results := [.lit (.bool true)], args := [d1, d2, d3] }
  | _ => none }
def fnExactSafeFundRow : OpenClaim := { program := "ytbgnlnlgjmipfaa", sum := "fb50ec29f4f314dbc56ed65b15a57b52a3596b275f9363d0bdd134d1acf383ab", func := "loop.example/g01010/laws.FnExactSafeFund", spec := "fnExactSafeFund", inPlace := ["internal/bytealg.abigen_runtime_cmpstring"], unfollowed := true, recurses := true, apart := false }
def FnExactSafeFundSaid : Prop := fnExactSafeFundRow.holds Try.pinned (OpenSpec.ofChange fnExactSafeFundSpec)

/-- ITS FALSE NEIGHBOUR: 'it returns false'. Refute it at one input. -/
def fnExactSafeFundWrong : ChangeSpec := { name := "fnExactSafeFund", fn := fun _ => fun
  | [d1, d2, d3] => { results := [.lit (.bool false)], args := [d1, d2, d3] }
  | _ => none }
def FnExactSafeFundWrongFalsely : Prop := fnExactSafeFundRow.holds Try.pinned (OpenSpec.ofChange fnExactSafeFundWrong)

/-- 'laws.FnPaidSecurities': WHATEVER THE INPUT: true; the input reads as it did. -/
def fnPaidSecuritiesSpec : ChangeSpec := { name := "fnPaidSecurities", fn := fun _ => fun
  | [d] => { results := [.lit (.bool true)], args := [d] }
  | _ => none }
def fnPaidSecuritiesRow : OpenClaim := { program := "ytbgnlnlgjmipfaa", sum := "fb50ec29f4f314dbc56ed65b15a57b52a3596b275f9363d0bdd134d1acf383ab", func := "loop.example/g01010/laws.FnPaidSecurities", spec := "fnPaidSecurities", unfollowed := true, recurses := true, apart := false }
def FnPaidSecuritiesSaid : Prop := fnPaidSecuritiesRow.holds Try.pinned (OpenSpec.ofChange fnPaidSecuritiesSpec)

/-- ITS FALSE NEIGHBOUR: 'it returns false'. Refute it at one input. -/
def fnPaidSecuritiesWrong : ChangeSpec := { name := "fnPaidSecurities", fn := fun _ => fun
  | [d] => { results := [.lit (.bool false)], args := [d] }
  | _ => none }
def FnPaidSecuritiesWrongFalsely : Prop := fnPaidSecuritiesRow.holds Try.pinned (OpenSpec.ofChange fnPaidSecuritiesWrong)

/-- 'laws.FnExactPointsFor': WHATEVER THE INPUT: true; the input reads as it did. -/
def fnExactPointsForSpec : ChangeSpec := { name := "fnExactPointsFor", fn := fun _ => fun
  | [d1, d2, d3] => { results := [.lit (.bool true)], args := [d1, d2, d3] }
  | _ => none }
def fnExactPointsForRow : OpenClaim := { program := "ytbgnlnlgjmipfaa", sum := "fb50ec29f4f314dbc56ed65b15a57b52a3596b275f9363d0bdd134d1acf383ab", func := "loop.example/g01010/laws.FnExactPointsFor", spec := "fnExactPointsFor", inPlace := ["internal/bytealg.abigen_runtime_cmpstring"], unfollowed := true, recurses := true, apart := false }
def FnExactPointsForSaid : Prop := fnExactPointsForRow.holds Try.pinned (OpenSpec.ofChange fnExactPointsForSpec)

/-- ITS FALSE NEIGHBOUR: 'it returns false'. Refute it at one input. -/
def fnExactPointsForWrong : ChangeSpec := { name := "fnExactPointsFor", fn := fun _ => fun
  | [d1, d2, d3] => { results := [.lit (.bool false)], args := [d1, d2, d3] }
  | _ => none }
def FnExactPointsForWrongFalsely : Prop := fnExactPointsForRow.holds Try.pinned (OpenSpec.ofChange fnExactPointsForWrong)

/-- 'laws.FnExactUnawardedOf': WHATEVER THE INPUT: true; the input reads as it did. -/
def fnExactUnawardedOfSpec : ChangeSpec := { name := "fnExactUnawardedOf", fn := fun _ => fun
  | [d1, d2] => { results := [.lit (.bool true)], args := [d1, d2] }
  | _ => none }
def fnExactUnawardedOfRow : OpenClaim := { program := "ytbgnlnlgjmipfaa", sum := "fb50ec29f4f314dbc56ed65b15a57b52a3596b275f9363d0bdd134d1acf383ab", func := "loop.example/g01010/laws.FnExactUnawardedOf", spec := "fnExactUnawardedOf", inPlace := ["internal/bytealg.abigen_runtime_cmpstring"], unfollowed := true, recurses := true, apart := false }
def FnExactUnawardedOfSaid : Prop := fnExactUnawardedOfRow.holds Try.pinned (OpenSpec.ofChange fnExactUnawardedOfSpec)

/-- ITS FALSE NEIGHBOUR: 'it returns false'. Refute it at one input. -/
def fnExactUnawardedOfWrong : ChangeSpec := { name := "fnExactUnawardedOf", fn := fun _ => fun
  | [d1, d2] => { results := [.lit (.bool false)], args := [d1, d2] }
  | _ => none }
def FnExactUnawardedOfWrongFalsely : Prop := fnExactUnawardedOfRow.holds Try.pinned (OpenSpec.ofChange fnExactUnawardedOfWrong)

/-- 'laws.FnExactAwardFund': WHATEVER THE INPUT: true; the input reads as it did. -/
def fnExactAwardFundSpec : ChangeSpec := { name := "fnExactAwardFund", fn := fun _ => fun
  | [d1, d2] => { results := [.lit (.bool true)], args := [d1, d2] }
  | _ => none }
def fnExactAwardFundRow : OpenClaim := { program := "ytbgnlnlgjmipfaa", sum := "fb50ec29f4f314dbc56ed65b15a57b52a3596b275f9363d0bdd134d1acf383ab", func := "loop.example/g01010/laws.FnExactAwardFund", spec := "fnExactAwardFund", inPlace := ["internal/bytealg.abigen_runtime_cmpstring"], unfollowed := true, recurses := true, apart := false }
def FnExactAwardFundSaid : Prop := fnExactAwardFundRow.holds Try.pinned (OpenSpec.ofChange fnExactAwardFundSpec)

/-- ITS FALSE NEIGHBOUR: 'it returns false'. Refute it at one input. -/
def fnExactAwardFundWrong : ChangeSpec := { name := "fnExactAwardFund", fn := fun _ => fun
  | [d1, d2] => { results := [.lit (.bool false)], args := [d1, d2] }
  | _ => none }
def FnExactAwardFundWrongFalsely : Prop := fnExactAwardFundRow.holds Try.pinned (OpenSpec.ofChange fnExactAwardFundWrong)

/-- 'laws.FnSalvage': WHATEVER THE INPUT: true; the input reads as it did. -/
def fnSalvageSpec : ChangeSpec := { name := "fnSalvage", fn := fun _ => fun
  | [d] => { results := [.lit (.bool true)], args := [d] }
  | _ => none }
def fnSalvageRow : OpenClaim := { program := "ytbgnlnlgjmipfaa", sum := "fb50ec29f4f314dbc56ed65b15a57b52a3596b275f9363d0bdd134d1acf383ab", func := "loop.example/g01010/laws.FnSalvage", spec := "fnSalvage", inPlace := ["internal/bytealg.abigen_runtime_cmpstring"], unfollowed := true, recurses := true, apart := false }
def FnSalvageSaid : Prop := fnSalvageRow.holds Try.pinned (OpenSpec.ofChange fnSalvageSpec)

/-- ITS FALSE NEIGHBOUR: 'it returns false'. Refute it at one input. -/
def fnSalvageWrong : ChangeSpec := { name := "fnSalvage", fn := fun _ => fun
  | [d] => { results := [.lit (.bool false)], args := [d] }
  | _ => none }
def FnSalvageWrongFalsely : Prop := fnSalvageRow.holds Try.pinned (OpenSpec.ofChange fnSalvageWrong)

/-- 'laws.FnClaims': WHATEVER THE INPUT: true; the input reads as it did. -/
def fnClaimsSpec : ChangeSpec := { name := "fnClaims", fn := fun _ => fun
  | [d] => { results := [.lit (.bool true)], args := [d] }
  | _ => none }
def fnClaimsRow : OpenClaim := { program := "ytbgnlnlgjmipfaa", sum := "fb50ec29f4f314dbc56ed65b15a57b52a3596b275f9363d0bdd134d1acf383ab", func := "loop.example/g01010/laws.FnClaims", spec := "fnClaims", inPlace := ["internal/bytealg.abigen_runtime_cmpstring", "slices.overlaps[loop.example/g01010/impl.Claim]"], unfollowed := true, recurses := true, apart := false }
def FnClaimsSaid : Prop := fnClaimsRow.holds Try.pinned (OpenSpec.ofChange fnClaimsSpec)

/-- ITS FALSE NEIGHBOUR: 'it returns false'. Refute it at one input. -/
def fnClaimsWrong : ChangeSpec := { name := "fnClaims", fn := fun _ => fun
  | [d] => { results := [.lit (.bool false)], args := [d] }
  | _ => none }
def FnClaimsWrongFalsely : Prop := fnClaimsRow.holds Try.pinned (OpenSpec.ofChange fnClaimsWrong)

/- THE SECOND FORM. 'bulk': how many values and letters a reading holds, each counted each time it is reached (what is shared counts as often as it is met; a slice's spare places count too). A statement '..UptoSaid' is the law's where the arguments, and the package variables that the reading takes, are together of bulk at most 1048576: NARROWER than '..Said'. Prove '..Said' where nothing that the law and all that it calls make is longer than what came in: it says more and counts as full. Else prove '..UptoSaid'. A law counts once. -/
mutual
def uptoBulk {H : Type} : DataW H → Nat
  | .lit (.string bytes) => bytes.length + 1
  | .lit _ => 1
  | .nil => 1
  | .ptr d => uptoBulk d + 1
  | .slice elems spare => uptoBulkAll elems + uptoBulkAll spare + 1
  | .agg parts => uptoBulkAll parts + 1
  | .iface _ d => uptoBulk d + 1
  | .map entries => uptoBulkEntries entries + 1
  | .held _ => 1
def uptoBulkAll {H : Type} : List (DataW H) → Nat
  | [] => 0
  | d :: r => uptoBulk d + uptoBulkAll r
def uptoBulkEntries {H : Type} : List (Lit × DataW H) → Nat
  | [] => 0
  | x :: r => uptoBulkEntry x + uptoBulkEntries r
def uptoBulkEntry {H : Type} : Lit × DataW H → Nat
  | (.string bytes, d) => bytes.length + uptoBulk d + 1
  | (_, d) => uptoBulk d + 1
 end
def uptoSmall : (H : Type) → List (DataW H) → Bool := fun _ ds => decide (uptoBulkAll ds ≤ 1048576)
def OpenSpec.upto (s : _root_.Go.ChangeSpec) : _root_.Go.OpenSpec := { _root_.Go.OpenSpec.ofChange s with cond := some uptoSmall }

/-- 'laws.FnExactBestSalvor', WHERE WHAT IT READS IS OF BULK AT MOST 1048576: true; the input reads as it did. -/
def fnExactBestSalvorUptoRow : OpenClaim := { program := "ytbgnlnlgjmipfaa", sum := "fb50ec29f4f314dbc56ed65b15a57b52a3596b275f9363d0bdd134d1acf383ab", func := "loop.example/g01010/laws.FnExactBestSalvor", spec := "fnExactBestSalvor", inPlace := ["internal/bytealg.abigen_runtime_cmpstring"], unfollowed := true, recurses := true, apart := false, narrowed := true }
def FnExactBestSalvorUptoSaid : Prop := fnExactBestSalvorUptoRow.holds Try.pinned (OpenSpec.upto fnExactBestSalvorSpec)

/-- 'laws.FnExactTotalsByKind', WHERE WHAT IT READS IS OF BULK AT MOST 1048576: true; the input reads as it did. -/
def fnExactTotalsByKindUptoRow : OpenClaim := { program := "ytbgnlnlgjmipfaa", sum := "fb50ec29f4f314dbc56ed65b15a57b52a3596b275f9363d0bdd134d1acf383ab", func := "loop.example/g01010/laws.FnExactTotalsByKind", spec := "fnExactTotalsByKind", unfollowed := true, recurses := true, apart := false, narrowed := true }
def FnExactTotalsByKindUptoSaid : Prop := fnExactTotalsByKindUptoRow.holds Try.pinned (OpenSpec.upto fnExactTotalsByKindSpec)

/-- 'laws.FnExactRemainingSecurities', WHERE WHAT IT READS IS OF BULK AT MOST 1048576: true; the input reads as it did. -/
def fnExactRemainingSecuritiesUptoRow : OpenClaim := { program := "ytbgnlnlgjmipfaa", sum := "fb50ec29f4f314dbc56ed65b15a57b52a3596b275f9363d0bdd134d1acf383ab", func := "loop.example/g01010/laws.FnExactRemainingSecurities", spec := "fnExactRemainingSecurities", unfollowed := true, recurses := true, apart := false, narrowed := true }
def FnExactRemainingSecuritiesUptoSaid : Prop := fnExactRemainingSecuritiesUptoRow.holds Try.pinned (OpenSpec.upto fnExactRemainingSecuritiesSpec)

/-- 'laws.FnExactChangeRank', WHERE WHAT IT READS IS OF BULK AT MOST 1048576: true; the input reads as it did. -/
def fnExactChangeRankUptoRow : OpenClaim := { program := "ytbgnlnlgjmipfaa", sum := "fb50ec29f4f314dbc56ed65b15a57b52a3596b275f9363d0bdd134d1acf383ab", func := "loop.example/g01010/laws.FnExactChangeRank", spec := "fnExactChangeRank", inPlace := ["internal/bytealg.abigen_runtime_cmpstring"], unfollowed := true, recurses := true, apart := false, narrowed := true }
def FnExactChangeRankUptoSaid : Prop := fnExactChangeRankUptoRow.holds Try.pinned (OpenSpec.upto fnExactChangeRankSpec)

/-- 'laws.FnExactPayFromSecurities', WHERE WHAT IT READS IS OF BULK AT MOST 1048576: true; the input reads as it did. -/
def fnExactPayFromSecuritiesUptoRow : OpenClaim := { program := "ytbgnlnlgjmipfaa", sum := "fb50ec29f4f314dbc56ed65b15a57b52a3596b275f9363d0bdd134d1acf383ab", func := "loop.example/g01010/laws.FnExactPayFromSecurities", spec := "fnExactPayFromSecurities", unfollowed := true, recurses := true, apart := false, narrowed := true }
def FnExactPayFromSecuritiesUptoSaid : Prop := fnExactPayFromSecuritiesUptoRow.holds Try.pinned (OpenSpec.upto fnExactPayFromSecuritiesSpec)

/-- 'laws.FnExactSafeFund', WHERE WHAT IT READS IS OF BULK AT MOST 1048576: true; the input reads as it did. -/
def fnExactSafeFundUptoRow : OpenClaim := { program := "ytbgnlnlgjmipfaa", sum := "fb50ec29f4f314dbc56ed65b15a57b52a3596b275f9363d0bdd134d1acf383ab", func := "loop.example/g01010/laws.FnExactSafeFund", spec := "fnExactSafeFund", inPlace := ["internal/bytealg.abigen_runtime_cmpstring"], unfollowed := true, recurses := true, apart := false, narrowed := true }
def FnExactSafeFundUptoSaid : Prop := fnExactSafeFundUptoRow.holds Try.pinned (OpenSpec.upto fnExactSafeFundSpec)

/-- 'laws.FnPaidSecurities', WHERE WHAT IT READS IS OF BULK AT MOST 1048576: true; the input reads as it did. -/
def fnPaidSecuritiesUptoRow : OpenClaim := { program := "ytbgnlnlgjmipfaa", sum := "fb50ec29f4f314dbc56ed65b15a57b52a3596b275f9363d0bdd134d1acf383ab", func := "loop.example/g01010/laws.FnPaidSecurities", spec := "fnPaidSecurities", unfollowed := true, recurses := true, apart := false, narrowed := true }
def FnPaidSecuritiesUptoSaid : Prop := fnPaidSecuritiesUptoRow.holds Try.pinned (OpenSpec.upto fnPaidSecuritiesSpec)

/-- 'laws.FnExactPointsFor', WHERE WHAT IT READS IS OF BULK AT MOST 1048576: true; the input reads as it did. -/
def fnExactPointsForUptoRow : OpenClaim := { program := "ytbgnlnlgjmipfaa", sum := "fb50ec29f4f314dbc56ed65b15a57b52a3596b275f9363d0bdd134d1acf383ab", func := "loop.example/g01010/laws.FnExactPointsFor", spec := "fnExactPointsFor", inPlace := ["internal/bytealg.abigen_runtime_cmpstring"], unfollowed := true, recurses := true, apart := false, narrowed := true }
def FnExactPointsForUptoSaid : Prop := fnExactPointsForUptoRow.holds Try.pinned (OpenSpec.upto fnExactPointsForSpec)

/-- 'laws.FnExactUnawardedOf', WHERE WHAT IT READS IS OF BULK AT MOST 1048576: true; the input reads as it did. -/
def fnExactUnawardedOfUptoRow : OpenClaim := { program := "ytbgnlnlgjmipfaa", sum := "fb50ec29f4f314dbc56ed65b15a57b52a3596b275f9363d0bdd134d1acf383ab", func := "loop.example/g01010/laws.FnExactUnawardedOf", spec := "fnExactUnawardedOf", inPlace := ["internal/bytealg.abigen_runtime_cmpstring"], unfollowed := true, recurses := true, apart := false, narrowed := true }
def FnExactUnawardedOfUptoSaid : Prop := fnExactUnawardedOfUptoRow.holds Try.pinned (OpenSpec.upto fnExactUnawardedOfSpec)

/-- 'laws.FnExactAwardFund', WHERE WHAT IT READS IS OF BULK AT MOST 1048576: true; the input reads as it did. -/
def fnExactAwardFundUptoRow : OpenClaim := { program := "ytbgnlnlgjmipfaa", sum := "fb50ec29f4f314dbc56ed65b15a57b52a3596b275f9363d0bdd134d1acf383ab", func := "loop.example/g01010/laws.FnExactAwardFund", spec := "fnExactAwardFund", inPlace := ["internal/bytealg.abigen_runtime_cmpstring"], unfollowed := true, recurses := true, apart := false, narrowed := true }
def FnExactAwardFundUptoSaid : Prop := fnExactAwardFundUptoRow.holds Try.pinned (OpenSpec.upto fnExactAwardFundSpec)

/-- 'laws.FnSalvage', WHERE WHAT IT READS IS OF BULK AT MOST 1048576: true; the input reads as it did. -/
def fnSalvageUptoRow : OpenClaim := { program := "ytbgnlnlgjmipfaa", sum := "fb50ec29f4f314dbc56ed65b15a57b52a3596b275f9363d0bdd134d1acf383ab", func := "loop.example/g01010/laws.FnSalvage", spec := "fnSalvage", inPlace := ["internal/bytealg.abigen_runtime_cmpstring"], unfollowed := true, recurses := true, apart := false, narrowed := true }
def FnSalvageUptoSaid : Prop := fnSalvageUptoRow.holds Try.pinned (OpenSpec.upto fnSalvageSpec)

/-- 'laws.FnClaims', WHERE WHAT IT READS IS OF BULK AT MOST 1048576: true; the input reads as it did. -/
def fnClaimsUptoRow : OpenClaim := { program := "ytbgnlnlgjmipfaa", sum := "fb50ec29f4f314dbc56ed65b15a57b52a3596b275f9363d0bdd134d1acf383ab", func := "loop.example/g01010/laws.FnClaims", spec := "fnClaims", inPlace := ["internal/bytealg.abigen_runtime_cmpstring", "slices.overlaps[loop.example/g01010/impl.Claim]"], unfollowed := true, recurses := true, apart := false, narrowed := true }
def FnClaimsUptoSaid : Prop := fnClaimsUptoRow.holds Try.pinned (OpenSpec.upto fnClaimsSpec)

end Rows
end Go.Proofs.Ytbgnlnlgjmipfaa
