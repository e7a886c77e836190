/-
  No cell of these rows narrows 'for every input' (looked for: loops, veiled, ifaces, maps, wideKeys, modest, calm, conditions, laid).
  DERIVED. THE GIVEN ROWS OF THIS SEAT. 6 by the template 'for every input the law returns true; each argument reads behind the call as it read before'; 0 by the template 'total and deterministic' (their statements: YtjeilgogjoidjaaGreatTotals.lean).
  GIVEN WITH THE SEED: the statements are not yours to turn. If you find one false, say at which input.
  Laid BY PROGRAM, IN A SANDBOX (cutbox-rows.mjs): the forced cells as the released guide's own fill.sh prints them over the translation abe4bdf33ba83b06… (all of the seat's roots in one cut). By AI agents, Wed Nov 11 2026. No macro, syntax, notation, axiom, sorry.
-/
import Derived.Test.YtjeilgogjoidjaaGreatChecked
import GoSem.Claim
import GoSem.ClaimJoined
import GoSem.ClaimMapViews
import Derived.JoinedTies
import Derived.KernelRfl
namespace Go.Proofs.YtjeilgogjoidjaaGreat
/- THE CELL 'sum', in the pinned program and in every row, IS THE sha256 OF THE DUMP (.gsa) THAT YtjeilgogjoidjaaGreatProg.lean LOADS. Nothing in Lean hashes anything: it is a label: what it is worth is what the hold of that sum in a sandbox is worth. -/
noncomputable def Tryz.pinned : Pinned := { name := "ytjeilgogjoidjaagreat", sum := "abe4bdf33ba83b06b8af5109d9f35c321ce6c89a8541b989dd0f453f435cdf0e", checked := Tryz.checked }
namespace Rows
def none {H : Type} : Left H := { results := [], args := [] }

/-- 'laws.FnSound': WHATEVER THE INPUT: true; the input reads as it did. -/
def fnSoundSpec : ChangeSpec := { name := "fnSound", fn := fun _ => fun
  | [d] => { results := [.lit (.bool true)], args := [d] }
  | _ => none }
def fnSoundRow : OpenClaim := { program := "ytjeilgogjoidjaagreat", sum := "abe4bdf33ba83b06b8af5109d9f35c321ce6c89a8541b989dd0f453f435cdf0e", func := "loop.example/g00570/laws.FnSound", spec := "fnSound", unfollowed := true, recurses := true, apart := false }
def FnSoundSaid : Prop := fnSoundRow.holds Tryz.pinned (OpenSpec.ofChange fnSoundSpec)

/-- ITS FALSE NEIGHBOUR: 'it returns false'. Refute it at one input. -/
def fnSoundWrong : ChangeSpec := { name := "fnSound", fn := fun _ => fun
  | [d] => { results := [.lit (.bool false)], args := [d] }
  | _ => none }
def FnSoundWrongFalsely : Prop := fnSoundRow.holds Tryz.pinned (OpenSpec.ofChange fnSoundWrong)

/-- 'laws.FnDelete': WHATEVER THE INPUT: true; the input reads as it did. -/
def fnDeleteSpec : ChangeSpec := { name := "fnDelete", fn := fun _ => fun
  | [d] => { results := [.lit (.bool true)], args := [d] }
  | _ => none }
def fnDeleteRow : OpenClaim := { program := "ytjeilgogjoidjaagreat", sum := "abe4bdf33ba83b06b8af5109d9f35c321ce6c89a8541b989dd0f453f435cdf0e", func := "loop.example/g00570/laws.FnDelete", spec := "fnDelete", unfollowed := true, recurses := true, apart := false }
def FnDeleteSaid : Prop := fnDeleteRow.holds Tryz.pinned (OpenSpec.ofChange fnDeleteSpec)

/-- ITS FALSE NEIGHBOUR: 'it returns false'. Refute it at one input. -/
def fnDeleteWrong : ChangeSpec := { name := "fnDelete", fn := fun _ => fun
  | [d] => { results := [.lit (.bool false)], args := [d] }
  | _ => none }
def FnDeleteWrongFalsely : Prop := fnDeleteRow.holds Tryz.pinned (OpenSpec.ofChange fnDeleteWrong)

/-- 'laws.FnRestrict': WHATEVER THE INPUT: true; the input reads as it did. -/
def fnRestrictSpec : ChangeSpec := { name := "fnRestrict", fn := fun _ => fun
  | [d] => { results := [.lit (.bool true)], args := [d] }
  | _ => none }
def fnRestrictRow : OpenClaim := { program := "ytjeilgogjoidjaagreat", sum := "abe4bdf33ba83b06b8af5109d9f35c321ce6c89a8541b989dd0f453f435cdf0e", func := "loop.example/g00570/laws.FnRestrict", spec := "fnRestrict", unfollowed := true, recurses := true, apart := false }
def FnRestrictSaid : Prop := fnRestrictRow.holds Tryz.pinned (OpenSpec.ofChange fnRestrictSpec)

/-- ITS FALSE NEIGHBOUR: 'it returns false'. Refute it at one input. -/
def fnRestrictWrong : ChangeSpec := { name := "fnRestrict", fn := fun _ => fun
  | [d] => { results := [.lit (.bool false)], args := [d] }
  | _ => none }
def FnRestrictWrongFalsely : Prop := fnRestrictRow.holds Tryz.pinned (OpenSpec.ofChange fnRestrictWrong)

/-- 'laws.FnDefaults': WHATEVER THE INPUT: true; the input reads as it did. -/
def fnDefaultsSpec : ChangeSpec := { name := "fnDefaults", fn := fun _ => fun
  | [d] => { results := [.lit (.bool true)], args := [d] }
  | _ => none }
def fnDefaultsRow : OpenClaim := { program := "ytjeilgogjoidjaagreat", sum := "abe4bdf33ba83b06b8af5109d9f35c321ce6c89a8541b989dd0f453f435cdf0e", func := "loop.example/g00570/laws.FnDefaults", spec := "fnDefaults", unfollowed := true, recurses := true, apart := false }
def FnDefaultsSaid : Prop := fnDefaultsRow.holds Tryz.pinned (OpenSpec.ofChange fnDefaultsSpec)

/-- ITS FALSE NEIGHBOUR: 'it returns false'. Refute it at one input. -/
def fnDefaultsWrong : ChangeSpec := { name := "fnDefaults", fn := fun _ => fun
  | [d] => { results := [.lit (.bool false)], args := [d] }
  | _ => none }
def FnDefaultsWrongFalsely : Prop := fnDefaultsRow.holds Tryz.pinned (OpenSpec.ofChange fnDefaultsWrong)

/-- 'laws.FnSameValues': WHATEVER THE INPUT: true; the input reads as it did. -/
def fnSameValuesSpec : ChangeSpec := { name := "fnSameValues", fn := fun _ => fun
  | [d] => { results := [.lit (.bool true)], args := [d] }
  | _ => none }
def fnSameValuesRow : OpenClaim := { program := "ytjeilgogjoidjaagreat", sum := "abe4bdf33ba83b06b8af5109d9f35c321ce6c89a8541b989dd0f453f435cdf0e", func := "loop.example/g00570/laws.FnSameValues", spec := "fnSameValues", unfollowed := true, recurses := true, apart := false }
def FnSameValuesSaid : Prop := fnSameValuesRow.holds Tryz.pinned (OpenSpec.ofChange fnSameValuesSpec)

/-- ITS FALSE NEIGHBOUR: 'it returns false'. Refute it at one input. -/
def fnSameValuesWrong : ChangeSpec := { name := "fnSameValues", fn := fun _ => fun
  | [d] => { results := [.lit (.bool false)], args := [d] }
  | _ => none }
def FnSameValuesWrongFalsely : Prop := fnSameValuesRow.holds Tryz.pinned (OpenSpec.ofChange fnSameValuesWrong)

/-- 'laws.FnCascaded': WHATEVER THE INPUT: true; the input reads as it did. -/
def fnCascadedSpec : ChangeSpec := { name := "fnCascaded", fn := fun _ => fun
  | [d] => { results := [.lit (.bool true)], args := [d] }
  | _ => none }
def fnCascadedRow : OpenClaim := { program := "ytjeilgogjoidjaagreat", sum := "abe4bdf33ba83b06b8af5109d9f35c321ce6c89a8541b989dd0f453f435cdf0e", func := "loop.example/g00570/laws.FnCascaded", spec := "fnCascaded", unfollowed := true, recurses := true, apart := false }
def FnCascadedSaid : Prop := fnCascadedRow.holds Tryz.pinned (OpenSpec.ofChange fnCascadedSpec)

/-- ITS FALSE NEIGHBOUR: 'it returns false'. Refute it at one input. -/
def fnCascadedWrong : ChangeSpec := { name := "fnCascaded", fn := fun _ => fun
  | [d] => { results := [.lit (.bool false)], args := [d] }
  | _ => none }
def FnCascadedWrongFalsely : Prop := fnCascadedRow.holds Tryz.pinned (OpenSpec.ofChange fnCascadedWrong)

/- THE SECOND FORM. 'bulk': how many values and letters a reading holds, each counted each time it is reached (what is shared counts as often as it is met; a slice's spare places count too). A statement '..UptoSaid' is the law's where the arguments, and the package variables that the reading takes, are together of bulk at most 1048576: NARROWER than '..Said'. Prove '..Said' where nothing that the law and all that it calls make is longer than what came in: it says more and counts as full. Else prove '..UptoSaid'. A law counts once. -/
mutual
def uptoBulk {H : Type} : DataW H → Nat
  | .lit (.string bytes) => bytes.length + 1
  | .lit _ => 1
  | .nil => 1
  | .ptr d => uptoBulk d + 1
  | .slice elems spare => uptoBulkAll elems + uptoBulkAll spare + 1
  | .agg parts => uptoBulkAll parts + 1
  | .iface _ d => uptoBulk d + 1
  | .map entries => uptoBulkEntries entries + 1
  | .held _ => 1
def uptoBulkAll {H : Type} : List (DataW H) → Nat
  | [] => 0
  | d :: r => uptoBulk d + uptoBulkAll r
def uptoBulkEntries {H : Type} : List (Lit × DataW H) → Nat
  | [] => 0
  | x :: r => uptoBulkEntry x + uptoBulkEntries r
def uptoBulkEntry {H : Type} : Lit × DataW H → Nat
  | (.string bytes, d) => bytes.length + uptoBulk d + 1
  | (_, d) => uptoBulk d + 1
 end
def uptoSmall : (H : Type) → List (DataW H) → Bool := fun _ ds => decide (uptoBulkAll ds ≤ 1048576)
def OpenSpec.upto (s : _root_.Go.ChangeSpec) : _root_.Go.OpenSpec := { _root_.Go.OpenSpec.ofChange s with cond := some uptoSmall }

/-- 'laws.FnSound', WHERE WHAT IT READS IS OF BULK AT MOST 1048576: true; the input reads as it did. -/
def fnSoundUptoRow : OpenClaim := { program := "ytjeilgogjoidjaagreat", sum := "abe4bdf33ba83b06b8af5109d9f35c321ce6c89a8541b989dd0f453f435cdf0e", func := "loop.example/g00570/laws.FnSound", spec := "fnSound", unfollowed := true, recurses := true, apart := false, narrowed := true }
def FnSoundUptoSaid : Prop := fnSoundUptoRow.holds Tryz.pinned (OpenSpec.upto fnSoundSpec)

/-- 'laws.FnDelete', WHERE WHAT IT READS IS OF BULK AT MOST 1048576: true; the input reads as it did. -/
def fnDeleteUptoRow : OpenClaim := { program := "ytjeilgogjoidjaagreat", sum := "abe4bdf33ba83b06b8af5109d9f35c321ce6c89a8541b989dd0f453f435cdf0e", func := "loop.example/g00570/laws.FnDelete", spec := "fnDelete", unfollowed := true, recurses := true, apart := false, narrowed := true }
def FnDeleteUptoSaid : Prop := fnDeleteUptoRow.holds Tryz.pinned (OpenSpec.upto fnDeleteSpec)

/-- 'laws.FnRestrict', WHERE WHAT IT READS IS OF BULK AT MOST 1048576: true; the input reads as it did. -/
def fnRestrictUptoRow : OpenClaim := { program := "ytjeilgogjoidjaagreat", sum := "abe4bdf33ba83b06b8af5109d9f35c321ce6c89a8541b989dd0f453f435cdf0e", func := "loop.example/g00570/laws.FnRestrict", spec := "fnRestrict", unfollowed := true, recurses := true, apart := false, narrowed := true }
def FnRestrictUptoSaid : Prop := fnRestrictUptoRow.holds Tryz.pinned (OpenSpec.upto fnRestrictSpec)

/-- 'laws.FnDefaults', WHERE WHAT IT READS IS OF BULK AT MOST 1048576: true; the input reads as it did. -/
def fnDefaultsUptoRow : OpenClaim := { program := "ytjeilgogjoidjaagreat", sum := "abe4bdf33ba83b06b8af5109d9f35c321ce6c89a8541b989dd0f453f435cdf0e", func := "loop.example/g00570/laws.FnDefaults", spec := "fnDefaults", unfollowed := true, recurses := true, apart := false, narrowed := true }
def FnDefaultsUptoSaid : Prop := fnDefaultsUptoRow.holds Tryz.pinned (OpenSpec.upto fnDefaultsSpec)

/-- 'laws.FnSameValues', WHERE WHAT IT READS IS OF BULK AT MOST 1048576: true; the input reads as it did. -/
def fnSameValuesUptoRow : OpenClaim := { program := "ytjeilgogjoidjaagreat", sum := "abe4bdf33ba83b06b8af5109d9f35c321ce6c89a8541b989dd0f453f435cdf0e", func := "loop.example/g00570/laws.FnSameValues", spec := "fnSameValues", unfollowed := true, recurses := true, apart := false, narrowed := true }
def FnSameValuesUptoSaid : Prop := fnSameValuesUptoRow.holds Tryz.pinned (OpenSpec.upto fnSameValuesSpec)

/-- 'laws.FnCascaded', WHERE WHAT IT READS IS OF BULK AT MOST 1048576: true; the input reads as it did. -/
def fnCascadedUptoRow : OpenClaim := { program := "ytjeilgogjoidjaagreat", sum := "abe4bdf33ba83b06b8af5109d9f35c321ce6c89a8541b989dd0f453f435cdf0e", func := "loop.example/g00570/laws.FnCascaded", spec := "fnCascaded", unfollowed := true, recurses := true, apart := false, narrowed := true }
def FnCascadedUptoSaid : Prop := fnCascadedUptoRow.holds Tryz.pinned (OpenSpec.upto fnCascadedSpec)

end Rows
end Go.Proofs.YtjeilgogjoidjaaGreat
