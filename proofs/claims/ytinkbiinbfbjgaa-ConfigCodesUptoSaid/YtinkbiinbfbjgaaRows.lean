/-
  No cell of these rows narrows 'for every input' (looked for: loops, veiled, ifaces, maps, wideKeys, modest, calm, conditions, laid).
  DERIVED. THE GIVEN ROWS OF THIS SEAT. 13 by the template 'for every input the law returns true; each argument reads behind the call as it read before'; 0 by the template 'total and deterministic' (their statements: YtinkbiinbfbjgaaTotals.lean).
  GIVEN WITH THE SEED: the statements are not yours to turn. If you find one false, say at which input.
  Laid BY PROGRAM, IN A SANDBOX (cutbox-rows.mjs): the forced cells as the released guide's own fill.sh prints them over the translation 95f36b7c81e4dcae… (all of the seat's roots in one cut). By AI agents, Wed Nov 11 2026. No macro, syntax, notation, axiom, sorry.
-/
import Derived.Test.YtinkbiinbfbjgaaChecked
import GoSem.Claim
import GoSem.ClaimJoined
import GoSem.ClaimMapViews
import Derived.JoinedTies
import Derived.KernelRfl
namespace Go.Proofs.Ytinkbiinbfbjgaa
/- THE CELL 'sum', in the pinned program and in every row, IS THE sha256 OF THE DUMP (.gsa) THAT YtinkbiinbfbjgaaProg.lean LOADS. Nothing in Lean hashes anything: it is a label: what it is worth is what the hold of that sum in a sandbox is worth. -/
noncomputable def Try.pinned : Pinned := { name := "ytinkbiinbfbjgaa", sum := "95f36b7c81e4dcae88e54f16469dd59fa43ba2601c9f1fd7fd5c94b67dfc28bd", checked := Try.checked }
namespace Rows
def none {H : Type} : Left H := { results := [], args := [] }

/-- 'dockyardlaw17.ElectNewer': WHATEVER THE INPUT: true; the input reads as it did. -/
def electNewerSpec : ChangeSpec := { name := "electNewer", fn := fun _ => fun
  | [d1, d2, d3] => { results := [.lit (.bool true)], args := [d1, d2, d3] }
  | _ => none }
def electNewerRow : OpenClaim := { program := "ytinkbiinbfbjgaa", sum := "95f36b7c81e4dcae88e54f16469dd59fa43ba2601c9f1fd7fd5c94b67dfc28bd", func := "dockyard/dockyardlaw17.ElectNewer", spec := "electNewer", apart := false }
def ElectNewerSaid : Prop := electNewerRow.holds Try.pinned (OpenSpec.ofChange electNewerSpec)

/-- ITS FALSE NEIGHBOUR: 'it returns false'. Refute it at one input. -/
def electNewerWrong : ChangeSpec := { name := "electNewer", fn := fun _ => fun
  | [d1, d2, d3] => { results := [.lit (.bool false)], args := [d1, d2, d3] }
  | _ => none }
def ElectNewerWrongFalsely : Prop := electNewerRow.holds Try.pinned (OpenSpec.ofChange electNewerWrong)

/-- 'dockyardlaw17.ElectOrder': WHATEVER THE INPUT: true; the input reads as it did. -/
def electOrderSpec : ChangeSpec := { name := "electOrder", fn := fun _ => fun
  | [d1, d2, d3] => { results := [.lit (.bool true)], args := [d1, d2, d3] }
  | _ => none }
def electOrderRow : OpenClaim := { program := "ytinkbiinbfbjgaa", sum := "95f36b7c81e4dcae88e54f16469dd59fa43ba2601c9f1fd7fd5c94b67dfc28bd", func := "dockyard/dockyardlaw17.ElectOrder", spec := "electOrder", apart := false }
def ElectOrderSaid : Prop := electOrderRow.holds Try.pinned (OpenSpec.ofChange electOrderSpec)

/-- ITS FALSE NEIGHBOUR: 'it returns false'. Refute it at one input. -/
def electOrderWrong : ChangeSpec := { name := "electOrder", fn := fun _ => fun
  | [d1, d2, d3] => { results := [.lit (.bool false)], args := [d1, d2, d3] }
  | _ => none }
def ElectOrderWrongFalsely : Prop := electOrderRow.holds Try.pinned (OpenSpec.ofChange electOrderWrong)

/-- 'dockyardlaw17.ElectMay': WHATEVER THE INPUT: true; the input reads as it did. -/
def electMaySpec : ChangeSpec := { name := "electMay", fn := fun _ => fun
  | [d1, d2] => { results := [.lit (.bool true)], args := [d1, d2] }
  | _ => none }
def electMayRow : OpenClaim := { program := "ytinkbiinbfbjgaa", sum := "95f36b7c81e4dcae88e54f16469dd59fa43ba2601c9f1fd7fd5c94b67dfc28bd", func := "dockyard/dockyardlaw17.ElectMay", spec := "electMay", apart := false }
def ElectMaySaid : Prop := electMayRow.holds Try.pinned (OpenSpec.ofChange electMaySpec)

/-- ITS FALSE NEIGHBOUR: 'it returns false'. Refute it at one input. -/
def electMayWrong : ChangeSpec := { name := "electMay", fn := fun _ => fun
  | [d1, d2] => { results := [.lit (.bool false)], args := [d1, d2] }
  | _ => none }
def ElectMayWrongFalsely : Prop := electMayRow.holds Try.pinned (OpenSpec.ofChange electMayWrong)

/-- 'dockyardlaw14.ConfigMore': WHATEVER THE INPUT: true; the input reads as it did. -/
def configMoreSpec : ChangeSpec := { name := "configMore", fn := fun _ => fun
  | [d1, d2, d3] => { results := [.lit (.bool true)], args := [d1, d2, d3] }
  | _ => none }
def configMoreRow : OpenClaim := { program := "ytinkbiinbfbjgaa", sum := "95f36b7c81e4dcae88e54f16469dd59fa43ba2601c9f1fd7fd5c94b67dfc28bd", func := "dockyard/dockyardlaw14.ConfigMore", spec := "configMore", unfollowed := true, recurses := true, apart := false }
def ConfigMoreSaid : Prop := configMoreRow.holds Try.pinned (OpenSpec.ofChange configMoreSpec)

/-- ITS FALSE NEIGHBOUR: 'it returns false'. Refute it at one input. -/
def configMoreWrong : ChangeSpec := { name := "configMore", fn := fun _ => fun
  | [d1, d2, d3] => { results := [.lit (.bool false)], args := [d1, d2, d3] }
  | _ => none }
def ConfigMoreWrongFalsely : Prop := configMoreRow.holds Try.pinned (OpenSpec.ofChange configMoreWrong)

/-- 'dockyardlaw14.ConfigChanges': WHATEVER THE INPUT: true; the input reads as it did. -/
def configChangesSpec : ChangeSpec := { name := "configChanges", fn := fun _ => fun
  | [d1, d2] => { results := [.lit (.bool true)], args := [d1, d2] }
  | _ => none }
def configChangesRow : OpenClaim := { program := "ytinkbiinbfbjgaa", sum := "95f36b7c81e4dcae88e54f16469dd59fa43ba2601c9f1fd7fd5c94b67dfc28bd", func := "dockyard/dockyardlaw14.ConfigChanges", spec := "configChanges", unfollowed := true, recurses := true, apart := false }
def ConfigChangesSaid : Prop := configChangesRow.holds Try.pinned (OpenSpec.ofChange configChangesSpec)

/-- ITS FALSE NEIGHBOUR: 'it returns false'. Refute it at one input. -/
def configChangesWrong : ChangeSpec := { name := "configChanges", fn := fun _ => fun
  | [d1, d2] => { results := [.lit (.bool false)], args := [d1, d2] }
  | _ => none }
def ConfigChangesWrongFalsely : Prop := configChangesRow.holds Try.pinned (OpenSpec.ofChange configChangesWrong)

/-- 'dockyardlaw14.ConfigMeets': WHATEVER THE INPUT: true; the input reads as it did. -/
def configMeetsSpec : ChangeSpec := { name := "configMeets", fn := fun _ => fun
  | [d1, d2, d3] => { results := [.lit (.bool true)], args := [d1, d2, d3] }
  | _ => none }
def configMeetsRow : OpenClaim := { program := "ytinkbiinbfbjgaa", sum := "95f36b7c81e4dcae88e54f16469dd59fa43ba2601c9f1fd7fd5c94b67dfc28bd", func := "dockyard/dockyardlaw14.ConfigMeets", spec := "configMeets", unfollowed := true, recurses := true, apart := false }
def ConfigMeetsSaid : Prop := configMeetsRow.holds Try.pinned (OpenSpec.ofChange configMeetsSpec)

/-- ITS FALSE NEIGHBOUR: 'it returns false'. Refute it at one input. -/
def configMeetsWrong : ChangeSpec := { name := "configMeets", fn := fun _ => fun
  | [d1, d2, d3] => { results := [.lit (.bool false)], args := [d1, d2, d3] }
  | _ => none }
def ConfigMeetsWrongFalsely : Prop := configMeetsRow.holds Try.pinned (OpenSpec.ofChange configMeetsWrong)

/-- 'dockyardlaw14.ConfigBack': WHATEVER THE INPUT: true; the input reads as it did. -/
def configBackSpec : ChangeSpec := { name := "configBack", fn := fun _ => fun
  | [d1, d2] => { results := [.lit (.bool true)], args := [d1, d2] }
  | _ => none }
def configBackRow : OpenClaim := { program := "ytinkbiinbfbjgaa", sum := "95f36b7c81e4dcae88e54f16469dd59fa43ba2601c9f1fd7fd5c94b67dfc28bd", func := "dockyard/dockyardlaw14.ConfigBack", spec := "configBack", unfollowed := true, recurses := true, apart := false }
def ConfigBackSaid : Prop := configBackRow.holds Try.pinned (OpenSpec.ofChange configBackSpec)

/-- ITS FALSE NEIGHBOUR: 'it returns false'. Refute it at one input. -/
def configBackWrong : ChangeSpec := { name := "configBack", fn := fun _ => fun
  | [d1, d2] => { results := [.lit (.bool false)], args := [d1, d2] }
  | _ => none }
def ConfigBackWrongFalsely : Prop := configBackRow.holds Try.pinned (OpenSpec.ofChange configBackWrong)

/-- 'dockyardlaw14.ConfigCodes': WHATEVER THE INPUT: true; the input reads as it did. -/
def configCodesSpec : ChangeSpec := { name := "configCodes", fn := fun _ => fun
  | [d1, d2] => { results := [.lit (.bool true)], args := [d1, d2] }
  | _ => none }
def configCodesRow : OpenClaim := { program := "ytinkbiinbfbjgaa", sum := "95f36b7c81e4dcae88e54f16469dd59fa43ba2601c9f1fd7fd5c94b67dfc28bd", func := "dockyard/dockyardlaw14.ConfigCodes", spec := "configCodes", unfollowed := true, recurses := true, apart := false }
def ConfigCodesSaid : Prop := configCodesRow.holds Try.pinned (OpenSpec.ofChange configCodesSpec)

/-- ITS FALSE NEIGHBOUR: 'it returns false'. Refute it at one input. -/
def configCodesWrong : ChangeSpec := { name := "configCodes", fn := fun _ => fun
  | [d1, d2] => { results := [.lit (.bool false)], args := [d1, d2] }
  | _ => none }
def ConfigCodesWrongFalsely : Prop := configCodesRow.holds Try.pinned (OpenSpec.ofChange configCodesWrong)

/-- 'dockyardlaw18.ReplOrder': WHATEVER THE INPUT: true; the input reads as it did. -/
def replOrderSpec : ChangeSpec := { name := "replOrder", fn := fun _ => fun
  | [d1, d2, d3] => { results := [.lit (.bool true)], args := [d1, d2, d3] }
  | _ => none }
def replOrderRow : OpenClaim := { program := "ytinkbiinbfbjgaa", sum := "95f36b7c81e4dcae88e54f16469dd59fa43ba2601c9f1fd7fd5c94b67dfc28bd", func := "dockyard/dockyardlaw18.ReplOrder", spec := "replOrder", recurses := true, apart := false }
def ReplOrderSaid : Prop := replOrderRow.holds Try.pinned (OpenSpec.ofChange replOrderSpec)

/-- ITS FALSE NEIGHBOUR: 'it returns false'. Refute it at one input. -/
def replOrderWrong : ChangeSpec := { name := "replOrder", fn := fun _ => fun
  | [d1, d2, d3] => { results := [.lit (.bool false)], args := [d1, d2, d3] }
  | _ => none }
def ReplOrderWrongFalsely : Prop := replOrderRow.holds Try.pinned (OpenSpec.ofChange replOrderWrong)

/-- 'dockyardlaw18.ReplCommits': WHATEVER THE INPUT: true; the input reads as it did. -/
def replCommitsSpec : ChangeSpec := { name := "replCommits", fn := fun _ => fun
  | [d1, d2, d3] => { results := [.lit (.bool true)], args := [d1, d2, d3] }
  | _ => none }
def replCommitsRow : OpenClaim := { program := "ytinkbiinbfbjgaa", sum := "95f36b7c81e4dcae88e54f16469dd59fa43ba2601c9f1fd7fd5c94b67dfc28bd", func := "dockyard/dockyardlaw18.ReplCommits", spec := "replCommits", recurses := true, apart := false }
def ReplCommitsSaid : Prop := replCommitsRow.holds Try.pinned (OpenSpec.ofChange replCommitsSpec)

/-- ITS FALSE NEIGHBOUR: 'it returns false'. Refute it at one input. -/
def replCommitsWrong : ChangeSpec := { name := "replCommits", fn := fun _ => fun
  | [d1, d2, d3] => { results := [.lit (.bool false)], args := [d1, d2, d3] }
  | _ => none }
def ReplCommitsWrongFalsely : Prop := replCommitsRow.holds Try.pinned (OpenSpec.ofChange replCommitsWrong)

/-- 'dockyardlaw18.ReplMajority': WHATEVER THE INPUT: true; the input reads as it did. -/
def replMajoritySpec : ChangeSpec := { name := "replMajority", fn := fun _ => fun
  | [d1, d2, d3] => { results := [.lit (.bool true)], args := [d1, d2, d3] }
  | _ => none }
def replMajorityRow : OpenClaim := { program := "ytinkbiinbfbjgaa", sum := "95f36b7c81e4dcae88e54f16469dd59fa43ba2601c9f1fd7fd5c94b67dfc28bd", func := "dockyard/dockyardlaw18.ReplMajority", spec := "replMajority", recurses := true, apart := false }
def ReplMajoritySaid : Prop := replMajorityRow.holds Try.pinned (OpenSpec.ofChange replMajoritySpec)

/-- ITS FALSE NEIGHBOUR: 'it returns false'. Refute it at one input. -/
def replMajorityWrong : ChangeSpec := { name := "replMajority", fn := fun _ => fun
  | [d1, d2, d3] => { results := [.lit (.bool false)], args := [d1, d2, d3] }
  | _ => none }
def ReplMajorityWrongFalsely : Prop := replMajorityRow.holds Try.pinned (OpenSpec.ofChange replMajorityWrong)

/-- 'dockyardlaw18.ReplProgress': WHATEVER THE INPUT: true; the input reads as it did. -/
def replProgressSpec : ChangeSpec := { name := "replProgress", fn := fun _ => fun
  | [d1, d2] => { results := [.lit (.bool true)], args := [d1, d2] }
  | _ => none }
def replProgressRow : OpenClaim := { program := "ytinkbiinbfbjgaa", sum := "95f36b7c81e4dcae88e54f16469dd59fa43ba2601c9f1fd7fd5c94b67dfc28bd", func := "dockyard/dockyardlaw18.ReplProgress", spec := "replProgress", recurses := true, apart := false }
def ReplProgressSaid : Prop := replProgressRow.holds Try.pinned (OpenSpec.ofChange replProgressSpec)

/-- ITS FALSE NEIGHBOUR: 'it returns false'. Refute it at one input. -/
def replProgressWrong : ChangeSpec := { name := "replProgress", fn := fun _ => fun
  | [d1, d2] => { results := [.lit (.bool false)], args := [d1, d2] }
  | _ => none }
def ReplProgressWrongFalsely : Prop := replProgressRow.holds Try.pinned (OpenSpec.ofChange replProgressWrong)

/-- 'dockyardlaw14.ConfigTells': WHATEVER THE INPUT: true; the input reads as it did. -/
def configTellsSpec : ChangeSpec := { name := "configTells", fn := fun _ => fun
  | [d1, d2, d3] => { results := [.lit (.bool true)], args := [d1, d2, d3] }
  | _ => none }
def configTellsRow : OpenClaim := { program := "ytinkbiinbfbjgaa", sum := "95f36b7c81e4dcae88e54f16469dd59fa43ba2601c9f1fd7fd5c94b67dfc28bd", func := "dockyard/dockyardlaw14.ConfigTells", spec := "configTells", unfollowed := true, recurses := true, apart := false }
def ConfigTellsSaid : Prop := configTellsRow.holds Try.pinned (OpenSpec.ofChange configTellsSpec)

/-- ITS FALSE NEIGHBOUR: 'it returns false'. Refute it at one input. -/
def configTellsWrong : ChangeSpec := { name := "configTells", fn := fun _ => fun
  | [d1, d2, d3] => { results := [.lit (.bool false)], args := [d1, d2, d3] }
  | _ => none }
def ConfigTellsWrongFalsely : Prop := configTellsRow.holds Try.pinned (OpenSpec.ofChange configTellsWrong)

/- THE SECOND FORM. 'bulk': how many values and letters a reading holds, each counted each time it is reached (what is shared counts as often as it is met; a slice's spare places count too). A statement '..UptoSaid' is the law's where the arguments, and the package variables that the reading takes, are together of bulk at most 1048576: NARROWER than '..Said'. Prove '..Said' where nothing that the law and all that it calls make is longer than what came in: it says more and counts as full. Else prove '..UptoSaid'. A law counts once. -/
mutual
def uptoBulk {H : Type} : DataW H → Nat
  | .lit (.string bytes) => bytes.length + 1
  | .lit _ => 1
  | .nil => 1
  | .ptr d => uptoBulk d + 1
  | .slice elems spare => uptoBulkAll elems + uptoBulkAll spare + 1
  | .agg parts => uptoBulkAll parts + 1
  | .iface _ d => uptoBulk d + 1
  | .map entries => uptoBulkEntries entries + 1
  | .held _ => 1
def uptoBulkAll {H : Type} : List (DataW H) → Nat
  | [] => 0
  | d :: r => uptoBulk d + uptoBulkAll r
def uptoBulkEntries {H : Type} : List (Lit × DataW H) → Nat
  | [] => 0
  | x :: r => uptoBulkEntry x + uptoBulkEntries r
def uptoBulkEntry {H : Type} : Lit × DataW H → Nat
  | (.string bytes, d) => bytes.length + uptoBulk d + 1
  | (_, d) => uptoBulk d + 1
 end
def uptoSmall : (H : Type) → List (DataW H) → Bool := fun _ ds => decide (uptoBulkAll ds ≤ 1048576)
def OpenSpec.upto (s : _root_.Go.ChangeSpec) : _root_.Go.OpenSpec := { _root_.Go.OpenSpec.ofChange s with cond := some uptoSmall }

/-- 'dockyardlaw17.ElectNewer', WHERE WHAT IT READS IS OF BULK AT MOST 1048576: true; the input reads as it did. -/
def electNewerUptoRow : OpenClaim := { program := "ytinkbiinbfbjgaa", sum := "95f36b7c81e4dcae88e54f16469dd59fa43ba2601c9f1fd7fd5c94b67dfc28bd", func := "dockyard/dockyardlaw17.ElectNewer", spec := "electNewer", apart := false, narrowed := true }
def ElectNewerUptoSaid : Prop := electNewerUptoRow.holds Try.pinned (OpenSpec.upto electNewerSpec)

/-- 'dockyardlaw17.ElectOrder', WHERE WHAT IT READS IS OF BULK AT MOST 1048576: true; the input reads as it did. -/
def electOrderUptoRow : OpenClaim := { program := "ytinkbiinbfbjgaa", sum := "95f36b7c81e4dcae88e54f16469dd59fa43ba2601c9f1fd7fd5c94b67dfc28bd", func := "dockyard/dockyardlaw17.ElectOrder", spec := "electOrder", apart := false, narrowed := true }
def ElectOrderUptoSaid : Prop := electOrderUptoRow.holds Try.pinned (OpenSpec.upto electOrderSpec)

/-- 'dockyardlaw17.ElectMay', WHERE WHAT IT READS IS OF BULK AT MOST 1048576: true; the input reads as it did. -/
def electMayUptoRow : OpenClaim := { program := "ytinkbiinbfbjgaa", sum := "95f36b7c81e4dcae88e54f16469dd59fa43ba2601c9f1fd7fd5c94b67dfc28bd", func := "dockyard/dockyardlaw17.ElectMay", spec := "electMay", apart := false, narrowed := true }
def ElectMayUptoSaid : Prop := electMayUptoRow.holds Try.pinned (OpenSpec.upto electMaySpec)

/-- 'dockyardlaw14.ConfigMore', WHERE WHAT IT READS IS OF BULK AT MOST 1048576: true; the input reads as it did. -/
def configMoreUptoRow : OpenClaim := { program := "ytinkbiinbfbjgaa", sum := "95f36b7c81e4dcae88e54f16469dd59fa43ba2601c9f1fd7fd5c94b67dfc28bd", func := "dockyard/dockyardlaw14.ConfigMore", spec := "configMore", unfollowed := true, recurses := true, apart := false, narrowed := true }
def ConfigMoreUptoSaid : Prop := configMoreUptoRow.holds Try.pinned (OpenSpec.upto configMoreSpec)

/-- 'dockyardlaw14.ConfigChanges', WHERE WHAT IT READS IS OF BULK AT MOST 1048576: true; the input reads as it did. -/
def configChangesUptoRow : OpenClaim := { program := "ytinkbiinbfbjgaa", sum := "95f36b7c81e4dcae88e54f16469dd59fa43ba2601c9f1fd7fd5c94b67dfc28bd", func := "dockyard/dockyardlaw14.ConfigChanges", spec := "configChanges", unfollowed := true, recurses := true, apart := false, narrowed := true }
def ConfigChangesUptoSaid : Prop := configChangesUptoRow.holds Try.pinned (OpenSpec.upto configChangesSpec)

/-- 'dockyardlaw14.ConfigMeets', WHERE WHAT IT READS IS OF BULK AT MOST 1048576: true; the input reads as it did. -/
def configMeetsUptoRow : OpenClaim := { program := "ytinkbiinbfbjgaa", sum := "95f36b7c81e4dcae88e54f16469dd59fa43ba2601c9f1fd7fd5c94b67dfc28bd", func := "dockyard/dockyardlaw14.ConfigMeets", spec := "configMeets", unfollowed := true, recurses := true, apart := false, narrowed := true }
def ConfigMeetsUptoSaid : Prop := configMeetsUptoRow.holds Try.pinned (OpenSpec.upto configMeetsSpec)

/-- 'dockyardlaw14.ConfigBack', WHERE WHAT IT READS IS OF BULK AT MOST 1048576: true; the input reads as it did. -/
def configBackUptoRow : OpenClaim := { program := "ytinkbiinbfbjgaa", sum := "95f36b7c81e4dcae88e54f16469dd59fa43ba2601c9f1fd7fd5c94b67dfc28bd", func := "dockyard/dockyardlaw14.ConfigBack", spec := "configBack", unfollowed := true, recurses := true, apart := false, narrowed := true }
def ConfigBackUptoSaid : Prop := configBackUptoRow.holds Try.pinned (OpenSpec.upto configBackSpec)

/-- 'dockyardlaw14.ConfigCodes', WHERE WHAT IT READS IS OF BULK AT MOST 1048576: true; the input reads as it did. -/
def configCodesUptoRow : OpenClaim := { program := "ytinkbiinbfbjgaa", sum := "95f36b7c81e4dcae88e54f16469dd59fa43ba2601c9f1fd7fd5c94b67dfc28bd", func := "dockyard/dockyardlaw14.ConfigCodes", spec := "configCodes", unfollowed := true, recurses := true, apart := false, narrowed := true }
def ConfigCodesUptoSaid : Prop := configCodesUptoRow.holds Try.pinned (OpenSpec.upto configCodesSpec)

/-- 'dockyardlaw18.ReplOrder', WHERE WHAT IT READS IS OF BULK AT MOST 1048576: true; the input reads as it did. -/
def replOrderUptoRow : OpenClaim := { program := "ytinkbiinbfbjgaa", sum := "95f36b7c81e4dcae88e54f16469dd59fa43ba2601c9f1fd7fd5c94b67dfc28bd", func := "dockyard/dockyardlaw18.ReplOrder", spec := "replOrder", recurses := true, apart := false, narrowed := true }
def ReplOrderUptoSaid : Prop := replOrderUptoRow.holds Try.pinned (OpenSpec.upto replOrderSpec)

/-- 'dockyardlaw18.ReplCommits', WHERE WHAT IT READS IS OF BULK AT MOST 1048576: true; the input reads as it did. -/
def replCommitsUptoRow : OpenClaim := { program := "ytinkbiinbfbjgaa", sum := "95f36b7c81e4dcae88e54f16469dd59fa43ba2601c9f1fd7fd5c94b67dfc28bd", func := "dockyard/dockyardlaw18.ReplCommits", spec := "replCommits", recurses := true, apart := false, narrowed := true }
def ReplCommitsUptoSaid : Prop := replCommitsUptoRow.holds Try.pinned (OpenSpec.upto replCommitsSpec)

/-- 'dockyardlaw18.ReplMajority', WHERE WHAT IT READS IS OF BULK AT MOST 1048576: true; the input reads as it did. -/
def replMajorityUptoRow : OpenClaim := { program := "ytinkbiinbfbjgaa", sum := "95f36b7c81e4dcae88e54f16469dd59fa43ba2601c9f1fd7fd5c94b67dfc28bd", func := "dockyard/dockyardlaw18.ReplMajority", spec := "replMajority", recurses := true, apart := false, narrowed := true }
def ReplMajorityUptoSaid : Prop := replMajorityUptoRow.holds Try.pinned (OpenSpec.upto replMajoritySpec)

/-- 'dockyardlaw18.ReplProgress', WHERE WHAT IT READS IS OF BULK AT MOST 1048576: true; the input reads as it did. -/
def replProgressUptoRow : OpenClaim := { program := "ytinkbiinbfbjgaa", sum := "95f36b7c81e4dcae88e54f16469dd59fa43ba2601c9f1fd7fd5c94b67dfc28bd", func := "dockyard/dockyardlaw18.ReplProgress", spec := "replProgress", recurses := true, apart := false, narrowed := true }
def ReplProgressUptoSaid : Prop := replProgressUptoRow.holds Try.pinned (OpenSpec.upto replProgressSpec)

/-- 'dockyardlaw14.ConfigTells', WHERE WHAT IT READS IS OF BULK AT MOST 1048576: true; the input reads as it did. -/
def configTellsUptoRow : OpenClaim := { program := "ytinkbiinbfbjgaa", sum := "95f36b7c81e4dcae88e54f16469dd59fa43ba2601c9f1fd7fd5c94b67dfc28bd", func := "dockyard/dockyardlaw14.ConfigTells", spec := "configTells", unfollowed := true, recurses := true, apart := false, narrowed := true }
def ConfigTellsUptoSaid : Prop := configTellsUptoRow.holds Try.pinned (OpenSpec.upto configTellsSpec)

end Rows
end Go.Proofs.Ytinkbiinbfbjgaa
