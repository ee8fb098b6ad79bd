/-
  No cell of these rows narrows 'for every input' (looked for: loops, veiled, ifaces, maps, wideKeys, modest, calm, conditions, laid).
  DERIVED. THE GIVEN ROWS OF THIS SEAT. 5 by the template 'for every input the law returns true; each argument reads behind the call as it read before'; 0 by the template 'total and deterministic' (their statements: YtjbakmmmgejhlaaTotals.lean).
  GIVEN WITH THE SEED: the statements are not yours to turn. If you find one false, say at which input.
  Laid BY PROGRAM, IN A SANDBOX (cutbox-rows.mjs): the forced cells as the released guide's own fill.sh prints them over the translation 0771fa9ce09e1e4a… (all of the seat's roots in one cut). By AI agents, Wed Nov 11 2026. No macro, syntax, notation, axiom, sorry.
-/
import Derived.Test.YtjbakmmmgejhlaaChecked
import GoSem.Claim
import GoSem.ClaimJoined
import GoSem.ClaimMapViews
import Derived.JoinedTies
import Derived.KernelRfl
namespace Go.Proofs.Ytjbakmmmgejhlaa
/- THE CELL 'sum', in the pinned program and in every row, IS THE sha256 OF THE DUMP (.gsa) THAT YtjbakmmmgejhlaaProg.lean LOADS. Nothing in Lean hashes anything: it is a label: what it is worth is what the hold of that sum in a sandbox is worth. -/
noncomputable def Try.pinned : Pinned := { name := "ytjbakmmmgejhlaa", sum := "0771fa9ce09e1e4af95668fae89439e07e58914b01771436a8c25b6d35dc247c", checked := Try.checked }
namespace Rows
def none {H : Type} : Left H := { results := [], args := [] }

/-- 'pannierlaw43.SessionJudges': WHATEVER THE INPUT: true; the input reads as it did. -/
def sessionJudgesSpec : ChangeSpec := { name := "sessionJudges", fn := fun _ => fun
  | [d1, d2] => { results := [.lit (.bool true)], args := [d1, d2] }
  | _ => none }
def sessionJudgesRow : OpenClaim := { program := "ytjbakmmmgejhlaa", sum := "0771fa9ce09e1e4af95668fae89439e07e58914b01771436a8c25b6d35dc247c", func := "pannier/pannierlaw43.SessionJudges", spec := "sessionJudges", unfollowed := true, recurses := true, apart := false }
def SessionJudgesSaid : Prop := sessionJudgesRow.holds Try.pinned (OpenSpec.ofChange sessionJudgesSpec)

/-- ITS FALSE NEIGHBOUR: 'it returns false'. Refute it at one input. -/
def sessionJudgesWrong : ChangeSpec := { name := "sessionJudges", fn := fun _ => fun
  | [d1, d2] => { results := [.lit (.bool false)], args := [d1, d2] }
  | _ => none }
def SessionJudgesWrongFalsely : Prop := sessionJudgesRow.holds Try.pinned (OpenSpec.ofChange sessionJudgesWrong)

/-- 'pannierlaw43.SessionLongs': WHATEVER THE INPUT: true; the input reads as it did. -/
def sessionLongsSpec : ChangeSpec := { name := "sessionLongs", fn := fun _ => fun
  | [d1, d2] => { results := [.lit (.bool true)], args := [d1, d2] }
  | _ => none }
def sessionLongsRow : OpenClaim := { program := "ytjbakmmmgejhlaa", sum := "0771fa9ce09e1e4af95668fae89439e07e58914b01771436a8c25b6d35dc247c", func := "pannier/pannierlaw43.SessionLongs", spec := "sessionLongs", unfollowed := true, recurses := true, apart := false }
def SessionLongsSaid : Prop := sessionLongsRow.holds Try.pinned (OpenSpec.ofChange sessionLongsSpec)

/-- ITS FALSE NEIGHBOUR: 'it returns false'. Refute it at one input. -/
def sessionLongsWrong : ChangeSpec := { name := "sessionLongs", fn := fun _ => fun
  | [d1, d2] => { results := [.lit (.bool false)], args := [d1, d2] }
  | _ => none }
def SessionLongsWrongFalsely : Prop := sessionLongsRow.holds Try.pinned (OpenSpec.ofChange sessionLongsWrong)

/-- 'pannierlaw43.SessionHolds': WHATEVER THE INPUT: true; the input reads as it did. -/
def sessionHoldsSpec : ChangeSpec := { name := "sessionHolds", fn := fun _ => fun
  | [d1, d2] => { results := [.lit (.bool true)], args := [d1, d2] }
  | _ => none }
def sessionHoldsRow : OpenClaim := { program := "ytjbakmmmgejhlaa", sum := "0771fa9ce09e1e4af95668fae89439e07e58914b01771436a8c25b6d35dc247c", func := "pannier/pannierlaw43.SessionHolds", spec := "sessionHolds", unfollowed := true, recurses := true, apart := false }
def SessionHoldsSaid : Prop := sessionHoldsRow.holds Try.pinned (OpenSpec.ofChange sessionHoldsSpec)

/-- ITS FALSE NEIGHBOUR: 'it returns false'. Refute it at one input. -/
def sessionHoldsWrong : ChangeSpec := { name := "sessionHolds", fn := fun _ => fun
  | [d1, d2] => { results := [.lit (.bool false)], args := [d1, d2] }
  | _ => none }
def SessionHoldsWrongFalsely : Prop := sessionHoldsRow.holds Try.pinned (OpenSpec.ofChange sessionHoldsWrong)

/-- 'pannierlaw43.SessionNone': WHATEVER THE INPUT: true; the input reads as it did. -/
def sessionNoneSpec : ChangeSpec := { name := "sessionNone", fn := fun _ => fun
  | [d1, d2] => { results := [.lit (.bool true)], args := [d1, d2] }
  | _ => none }
def sessionNoneRow : OpenClaim := { program := "ytjbakmmmgejhlaa", sum := "0771fa9ce09e1e4af95668fae89439e07e58914b01771436a8c25b6d35dc247c", func := "pannier/pannierlaw43.SessionNone", spec := "sessionNone", unfollowed := true, recurses := true, apart := false }
def SessionNoneSaid : Prop := sessionNoneRow.holds Try.pinned (OpenSpec.ofChange sessionNoneSpec)

/-- ITS FALSE NEIGHBOUR: 'it returns false'. Refute it at one input. -/
def sessionNoneWrong : ChangeSpec := { name := "sessionNone", fn := fun _ => fun
  | [d1, d2] => { results := [.lit (.bool false)], args := [d1, d2] }
  | _ => none }
def SessionNoneWrongFalsely : Prop := sessionNoneRow.holds Try.pinned (OpenSpec.ofChange sessionNoneWrong)

/-- 'pannierlaw43.SessionPlays': WHATEVER THE INPUT: true; the input reads as it did. -/
def sessionPlaysSpec : ChangeSpec := { name := "sessionPlays", fn := fun _ => fun
  | [d1, d2, d3] => { results := [.lit (.bool true)], args := [d1, d2, d3] }
  | _ => none }
def sessionPlaysRow : OpenClaim := { program := "ytjbakmmmgejhlaa", sum := "0771fa9ce09e1e4af95668fae89439e07e58914b01771436a8c25b6d35dc247c", func := "pannier/pannierlaw43.SessionPlays", spec := "sessionPlays", unfollowed := true, recurses := true, apart := false }
def SessionPlaysSaid : Prop := sessionPlaysRow.holds Try.pinned (OpenSpec.ofChange sessionPlaysSpec)

/-- ITS FALSE NEIGHBOUR: 'it returns false'. Refute it at one input. -/
def sessionPlaysWrong : ChangeSpec := { name := "sessionPlays", fn := fun _ => fun
  | [d1, d2, d3] => { results := [.lit (.bool false)], args := [d1, d2, d3] }
  | _ => none }
def SessionPlaysWrongFalsely : Prop := sessionPlaysRow.holds Try.pinned (OpenSpec.ofChange sessionPlaysWrong)

/- THE SECOND FORM. 'bulk': how many values and letters a reading holds, each counted each time it is reached (what is shared counts as often as it is met; a slice's spare places count too). A statement '..UptoSaid' is the law's where the arguments, and the package variables that the reading takes, are together of bulk at most 1048576: NARROWER than '..Said'. Prove '..Said' where nothing that the law and all that it calls make is longer than what came in: it says more and counts as full. Else prove '..UptoSaid'. A law counts once. -/
mutual
def uptoBulk {H : Type} : DataW H → Nat
  | .lit (.string bytes) => bytes.length + 1
  | .lit _ => 1
  | .nil => 1
  | .ptr d => uptoBulk d + 1
  | .slice elems spare => uptoBulkAll elems + uptoBulkAll spare + 1
  | .agg parts => uptoBulkAll parts + 1
  | .iface _ d => uptoBulk d + 1
  | .map entries => uptoBulkEntries entries + 1
  | .held _ => 1
def uptoBulkAll {H : Type} : List (DataW H) → Nat
  | [] => 0
  | d :: r => uptoBulk d + uptoBulkAll r
def uptoBulkEntries {H : Type} : List (Lit × DataW H) → Nat
  | [] => 0
  | x :: r => uptoBulkEntry x + uptoBulkEntries r
def uptoBulkEntry {H : Type} : Lit × DataW H → Nat
  | (.string bytes, d) => bytes.length + uptoBulk d + 1
  | (_, d) => uptoBulk d + 1
 end
def uptoSmall : (H : Type) → List (DataW H) → Bool := fun _ ds => decide (uptoBulkAll ds ≤ 1048576)
def OpenSpec.upto (s : _root_.Go.ChangeSpec) : _root_.Go.OpenSpec := { _root_.Go.OpenSpec.ofChange s with cond := some uptoSmall }

/-- 'pannierlaw43.SessionJudges', WHERE WHAT IT READS IS OF BULK AT MOST 1048576: true; the input reads as it did. -/
def sessionJudgesUptoRow : OpenClaim := { program := "ytjbakmmmgejhlaa", sum := "0771fa9ce09e1e4af95668fae89439e07e58914b01771436a8c25b6d35dc247c", func := "pannier/pannierlaw43.SessionJudges", spec := "sessionJudges", unfollowed := true, recurses := true, apart := false, narrowed := true }
def SessionJudgesUptoSaid : Prop := sessionJudgesUptoRow.holds Try.pinned (OpenSpec.upto sessionJudgesSpec)

/-- 'pannierlaw43.SessionLongs', WHERE WHAT IT READS IS OF BULK AT MOST 1048576: true; the input reads as it did. -/
def sessionLongsUptoRow : OpenClaim := { program := "ytjbakmmmgejhlaa", sum := "0771fa9ce09e1e4af95668fae89439e07e58914b01771436a8c25b6d35dc247c", func := "pannier/pannierlaw43.SessionLongs", spec := "sessionLongs", unfollowed := true, recurses := true, apart := false, narrowed := true }
def SessionLongsUptoSaid : Prop := sessionLongsUptoRow.holds Try.pinned (OpenSpec.upto sessionLongsSpec)

/-- 'pannierlaw43.SessionHolds', WHERE WHAT IT READS IS OF BULK AT MOST 1048576: true; the input reads as it did. -/
def sessionHoldsUptoRow : OpenClaim := { program := "ytjbakmmmgejhlaa", sum := "0771fa9ce09e1e4af95668fae89439e07e58914b01771436a8c25b6d35dc247c", func := "pannier/pannierlaw43.SessionHolds", spec := "sessionHolds", unfollowed := true, recurses := true, apart := false, narrowed := true }
def SessionHoldsUptoSaid : Prop := sessionHoldsUptoRow.holds Try.pinned (OpenSpec.upto sessionHoldsSpec)

/-- 'pannierlaw43.SessionNone', WHERE WHAT IT READS IS OF BULK AT MOST 1048576: true; the input reads as it did. -/
def sessionNoneUptoRow : OpenClaim := { program := "ytjbakmmmgejhlaa", sum := "0771fa9ce09e1e4af95668fae89439e07e58914b01771436a8c25b6d35dc247c", func := "pannier/pannierlaw43.SessionNone", spec := "sessionNone", unfollowed := true, recurses := true, apart := false, narrowed := true }
def SessionNoneUptoSaid : Prop := sessionNoneUptoRow.holds Try.pinned (OpenSpec.upto sessionNoneSpec)

/-- 'pannierlaw43.SessionPlays', WHERE WHAT IT READS IS OF BULK AT MOST 1048576: true; the input reads as it did. -/
def sessionPlaysUptoRow : OpenClaim := { program := "ytjbakmmmgejhlaa", sum := "0771fa9ce09e1e4af95668fae89439e07e58914b01771436a8c25b6d35dc247c", func := "pannier/pannierlaw43.SessionPlays", spec := "sessionPlays", unfollowed := true, recurses := true, apart := false, narrowed := true }
def SessionPlaysUptoSaid : Prop := sessionPlaysUptoRow.holds Try.pinned (OpenSpec.upto sessionPlaysSpec)

end Rows
end Go.Proofs.Ytjbakmmmgejhlaa
