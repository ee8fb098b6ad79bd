/-
  NARROWER THAN 'FOR EVERY INPUT', by the rows' own cells (each row's printed sentence says how): FairSteps: laid · FairBounds: laid · TaskNew: laid.
  DERIVED. THE GIVEN ROWS OF THIS SEAT. 3 by the template 'for every input the law returns true; each argument reads behind the call as it read before'; 0 by the template 'total and deterministic' (their statements: YthnbhjpahlceeaaGreatDoorTotals.lean).
  GIVEN WITH THE SEED: the statements are not yours to turn. If you find one false, say at which input.
  Laid BY PROGRAM, IN A SANDBOX (cutbox-rows.mjs): the forced cells as the released guide's own fill.sh prints them over the translation d96bafa574d8140f… (all of the seat's roots in one cut). By AI agents, Wed Nov 11 2026. No macro, syntax, notation, axiom, sorry.
-/
import Derived.Test.YthnbhjpahlceeaaGreatDoorChecked
import GoSem.PinnedTables
import GoSem.Claim
import GoSem.ClaimJoined
import GoSem.ClaimMapViews
import Derived.JoinedTies
import Derived.KernelRfl
namespace Go.Proofs.YthnbhjpahlceeaaGreatDoor
/- THE CELL 'sum', in the pinned program and in every row, IS THE sha256 OF THE DUMP (.gsa) THAT YthnbhjpahlceeaaGreatDoorProg.lean LOADS. Nothing in Lean hashes anything: it is a label: what it is worth is what the hold of that sum in a sandbox is worth. -/
noncomputable def Tryz.pinned : Pinned := { name := "ythnbhjpahlceeaagreatdoor", sum := "d96bafa574d8140f4b364ad0d4e470e4434c75546b22b918d1f447523240bc41", checked := Tryz.checked }
namespace Rows
def none {H : Type} : Left H := { results := [], args := [] }

/- WHAT THE LISTED PACKAGE-LEVEL VARIABLES READ AS WHEN THE CALL BEGINS. Each datum BY PROGRAM (the guide's laid-datum.mjs) off the statement by which the dump's own 'gosem.cut.vars' lays the variable. In a bare row this is a premise. The card (YthnbhjpahlceeaaGreatDoorCards.lean) ties it to the program's text. -/
def laid_unicode_utf8_acceptRanges {H : Type} : DataW H := .agg [.agg [.lit (.int .u8 128), .lit (.int .u8 191)], .agg [.lit (.int .u8 160), .lit (.int .u8 191)], .agg [.lit (.int .u8 128), .lit (.int .u8 159)], .agg [.lit (.int .u8 144), .lit (.int .u8 191)], .agg [.lit (.int .u8 128), .lit (.int .u8 143)], .agg [.lit (.int .u8 0), .lit (.int .u8 0)], .agg [.lit (.int .u8 0), .lit (.int .u8 0)], .agg [.lit (.int .u8 0), .lit (.int .u8 0)], .agg [.lit (.int .u8 0), .lit (.int .u8 0)], .agg [.lit (.int .u8 0), .lit (.int .u8 0)], .agg [.lit (.int .u8 0), .lit (.int .u8 0)], .agg [.lit (.int .u8 0), .lit (.int .u8 0)], .agg [.lit (.int .u8 0), .lit (.int .u8 0)], .agg [.lit (.int .u8 0), .lit (.int .u8 0)], .agg [.lit (.int .u8 0), .lit (.int .u8 0)], .agg [.lit (.int .u8 0), .lit (.int .u8 0)]]
def laid_pannier_hash_small {H : Type} : DataW H := .agg [.lit (.int .u32 2166136261), .lit (.int .u32 16777619)]
def laid_pannier_errors_parts {H : Type} : DataW H := .agg [.lit (.string []), .lit (.string [107, 105, 113]), .lit (.string [107, 105, 113]), .lit (.string [107, 105]), .lit (.string [107]), .lit (.string [107]), .lit (.string [107, 111, 105]), .lit (.string [107, 111]), .lit (.string [100]), .lit (.string []), .lit (.string []), .lit (.string [])]
/-- One of Go's own tables, pinned by name: the form's constant. -/
def laid_unicode_utf8_first : DataW Unit := Go.Pinned.utf8First

/-- 'pannierlaw35.FairSteps': WHATEVER THE INPUT: true; the input reads as it did. -/
def fairStepsSpec : ChangeSpec := { name := "fairSteps", fn := fun _ => fun
  | [d1, d2] => { results := [.lit (.bool true)], args := [d1, d2] }
  | _ => none }
def fairStepsRow : OpenClaim := { program := "ythnbhjpahlceeaagreatdoor", sum := "d96bafa574d8140f4b364ad0d4e470e4434c75546b22b918d1f447523240bc41", func := "pannier/pannierlaw35.FairSteps", spec := "fairSteps", inPlace := ["internal/bytealg.IndexByteString", "internal/bytealg.IndexString", "internal/bytealg.abigen_runtime_cmpstring", "slices.overlaps[string]"], unfollowed := true, recurses := true, named := ["unicode/utf8.first", "unicode/utf8.acceptRanges", "internal/bytealg.MaxLen", "pannier/hash.small", "pannier/errors.parts"], apart := false, laid := [("unicode/utf8.acceptRanges", laid_unicode_utf8_acceptRanges), ("pannier/hash.small", laid_pannier_hash_small), ("pannier/errors.parts", laid_pannier_errors_parts), ("unicode/utf8.first", laid_unicode_utf8_first)] }
def FairStepsSaid : Prop := fairStepsRow.holds Tryz.pinned (OpenSpec.ofChange fairStepsSpec)

/-- ITS FALSE NEIGHBOUR: 'it returns false'. Refute it at one input. -/
def fairStepsWrong : ChangeSpec := { name := "fairSteps", fn := fun _ => fun
  | [d1, d2] => { results := [.lit (.bool false)], args := [d1, d2] }
  | _ => none }
def FairStepsWrongFalsely : Prop := fairStepsRow.holds Tryz.pinned (OpenSpec.ofChange fairStepsWrong)

/-- 'pannierlaw35.FairBounds': WHATEVER THE INPUT: true; the input reads as it did. -/
def fairBoundsSpec : ChangeSpec := { name := "fairBounds", fn := fun _ => fun
  | [d1, d2, d3] => { results := [.lit (.bool true)], args := [d1, d2, d3] }
  | _ => none }
def fairBoundsRow : OpenClaim := { program := "ythnbhjpahlceeaagreatdoor", sum := "d96bafa574d8140f4b364ad0d4e470e4434c75546b22b918d1f447523240bc41", func := "pannier/pannierlaw35.FairBounds", spec := "fairBounds", inPlace := ["internal/bytealg.IndexByteString", "internal/bytealg.IndexString", "internal/bytealg.abigen_runtime_cmpstring", "slices.overlaps[string]"], unfollowed := true, recurses := true, named := ["unicode/utf8.first", "unicode/utf8.acceptRanges", "internal/bytealg.MaxLen", "pannier/hash.small", "pannier/errors.parts"], apart := false, laid := [("unicode/utf8.acceptRanges", laid_unicode_utf8_acceptRanges), ("pannier/hash.small", laid_pannier_hash_small), ("pannier/errors.parts", laid_pannier_errors_parts), ("unicode/utf8.first", laid_unicode_utf8_first)] }
def FairBoundsSaid : Prop := fairBoundsRow.holds Tryz.pinned (OpenSpec.ofChange fairBoundsSpec)

/-- ITS FALSE NEIGHBOUR: 'it returns false'. Refute it at one input. -/
def fairBoundsWrong : ChangeSpec := { name := "fairBounds", fn := fun _ => fun
  | [d1, d2, d3] => { results := [.lit (.bool false)], args := [d1, d2, d3] }
  | _ => none }
def FairBoundsWrongFalsely : Prop := fairBoundsRow.holds Tryz.pinned (OpenSpec.ofChange fairBoundsWrong)

/-- 'pannierlaw27.TaskNew': WHATEVER THE INPUT: true; the input reads as it did. -/
def taskNewSpec : ChangeSpec := { name := "taskNew", fn := fun _ => fun
  | [d1, d2, d3] => { results := [.lit (.bool true)], args := [d1, d2, d3] }
  | _ => none }
def taskNewRow : OpenClaim := { program := "ythnbhjpahlceeaagreatdoor", sum := "d96bafa574d8140f4b364ad0d4e470e4434c75546b22b918d1f447523240bc41", func := "pannier/pannierlaw27.TaskNew", spec := "taskNew", inPlace := ["internal/bytealg.IndexByteString", "internal/bytealg.IndexString", "internal/bytealg.abigen_runtime_cmpstring", "slices.overlaps[string]"], unfollowed := true, recurses := true, named := ["unicode/utf8.first", "unicode/utf8.acceptRanges", "internal/bytealg.MaxLen", "pannier/hash.small", "pannier/errors.parts"], apart := false, laid := [("unicode/utf8.acceptRanges", laid_unicode_utf8_acceptRanges), ("pannier/hash.small", laid_pannier_hash_small), ("pannier/errors.parts", laid_pannier_errors_parts), ("unicode/utf8.first", laid_unicode_utf8_first)] }
def TaskNewSaid : Prop := taskNewRow.holds Tryz.pinned (OpenSpec.ofChange taskNewSpec)

/-- ITS FALSE NEIGHBOUR: 'it returns false'. Refute it at one input. -/
def taskNewWrong : ChangeSpec := { name := "taskNew", fn := fun _ => fun
  | [d1, d2, d3] => { results := [.lit (.bool false)], args := [d1, d2, d3] }
  | _ => none }
def TaskNewWrongFalsely : Prop := taskNewRow.holds Tryz.pinned (OpenSpec.ofChange taskNewWrong)

/- THE SECOND FORM. 'bulk': how many values and letters a reading holds, each counted each time it is reached (what is shared counts as often as it is met; a slice's spare places count too). A statement '..UptoSaid' is the law's where the arguments, and the package variables that the reading takes, are together of bulk at most 1048576: NARROWER than '..Said'. Prove '..Said' where nothing that the law and all that it calls make is longer than what came in: it says more and counts as full. Else prove '..UptoSaid'. A law counts once. -/
mutual
def uptoBulk {H : Type} : DataW H → Nat
  | .lit (.string bytes) => bytes.length + 1
  | .lit _ => 1
  | .nil => 1
  | .ptr d => uptoBulk d + 1
  | .slice elems spare => uptoBulkAll elems + uptoBulkAll spare + 1
  | .agg parts => uptoBulkAll parts + 1
  | .iface _ d => uptoBulk d + 1
  | .map entries => uptoBulkEntries entries + 1
  | .held _ => 1
def uptoBulkAll {H : Type} : List (DataW H) → Nat
  | [] => 0
  | d :: r => uptoBulk d + uptoBulkAll r
def uptoBulkEntries {H : Type} : List (Lit × DataW H) → Nat
  | [] => 0
  | x :: r => uptoBulkEntry x + uptoBulkEntries r
def uptoBulkEntry {H : Type} : Lit × DataW H → Nat
  | (.string bytes, d) => bytes.length + uptoBulk d + 1
  | (_, d) => uptoBulk d + 1
 end
def uptoSmall : (H : Type) → List (DataW H) → Bool := fun _ ds => decide (uptoBulkAll ds ≤ 1048576)
def OpenSpec.upto (s : _root_.Go.ChangeSpec) : _root_.Go.OpenSpec := { _root_.Go.OpenSpec.ofChange s with cond := some uptoSmall }

/-- 'pannierlaw35.FairSteps', WHERE WHAT IT READS IS OF BULK AT MOST 1048576: true; the input reads as it did. -/
def fairStepsUptoRow : OpenClaim := { program := "ythnbhjpahlceeaagreatdoor", sum := "d96bafa574d8140f4b364ad0d4e470e4434c75546b22b918d1f447523240bc41", func := "pannier/pannierlaw35.FairSteps", spec := "fairSteps", inPlace := ["internal/bytealg.IndexByteString", "internal/bytealg.IndexString", "internal/bytealg.abigen_runtime_cmpstring", "slices.overlaps[string]"], unfollowed := true, recurses := true, named := ["unicode/utf8.first", "unicode/utf8.acceptRanges", "internal/bytealg.MaxLen", "pannier/hash.small", "pannier/errors.parts"], apart := false, laid := [("unicode/utf8.acceptRanges", laid_unicode_utf8_acceptRanges), ("pannier/hash.small", laid_pannier_hash_small), ("pannier/errors.parts", laid_pannier_errors_parts), ("unicode/utf8.first", laid_unicode_utf8_first)], narrowed := true }
def FairStepsUptoSaid : Prop := fairStepsUptoRow.holds Tryz.pinned (OpenSpec.upto fairStepsSpec)

/-- 'pannierlaw35.FairBounds', WHERE WHAT IT READS IS OF BULK AT MOST 1048576: true; the input reads as it did. -/
def fairBoundsUptoRow : OpenClaim := { program := "ythnbhjpahlceeaagreatdoor", sum := "d96bafa574d8140f4b364ad0d4e470e4434c75546b22b918d1f447523240bc41", func := "pannier/pannierlaw35.FairBounds", spec := "fairBounds", inPlace := ["internal/bytealg.IndexByteString", "internal/bytealg.IndexString", "internal/bytealg.abigen_runtime_cmpstring", "slices.overlaps[string]"], unfollowed := true, recurses := true, named := ["unicode/utf8.first", "unicode/utf8.acceptRanges", "internal/bytealg.MaxLen", "pannier/hash.small", "pannier/errors.parts"], apart := false, laid := [("unicode/utf8.acceptRanges", laid_unicode_utf8_acceptRanges), ("pannier/hash.small", laid_pannier_hash_small), ("pannier/errors.parts", laid_pannier_errors_parts), ("unicode/utf8.first", laid_unicode_utf8_first)], narrowed := true }
def FairBoundsUptoSaid : Prop := fairBoundsUptoRow.holds Tryz.pinned (OpenSpec.upto fairBoundsSpec)

/-- 'pannierlaw27.TaskNew', WHERE WHAT IT READS IS OF BULK AT MOST 1048576: true; the input reads as it did. -/
def taskNewUptoRow : OpenClaim := { program := "ythnbhjpahlceeaagreatdoor", sum := "d96bafa574d8140f4b364ad0d4e470e4434c75546b22b918d1f447523240bc41", func := "pannier/pannierlaw27.TaskNew", spec := "taskNew", inPlace := ["internal/bytealg.IndexByteString", "internal/bytealg.IndexString", "internal/bytealg.abigen_runtime_cmpstring", "slices.overlaps[string]"], unfollowed := true, recurses := true, named := ["unicode/utf8.first", "unicode/utf8.acceptRanges", "internal/bytealg.MaxLen", "pannier/hash.small", "pannier/errors.parts"], apart := false, laid := [("unicode/utf8.acceptRanges", laid_unicode_utf8_acceptRanges), ("pannier/hash.small", laid_pannier_hash_small), ("pannier/errors.parts", laid_pannier_errors_parts), ("unicode/utf8.first", laid_unicode_utf8_first)], narrowed := true }
def TaskNewUptoSaid : Prop := taskNewUptoRow.holds Tryz.pinned (OpenSpec.upto taskNewSpec)

end Rows
end Go.Proofs.YthnbhjpahlceeaaGreatDoor
