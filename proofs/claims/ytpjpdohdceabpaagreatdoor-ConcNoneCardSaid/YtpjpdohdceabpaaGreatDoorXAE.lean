/-
  The closed checks of the program; what its package variables hold, as the reckoner's heap.
-/
import Derived.Test.YtpjpdohdceabpaaGreatDoorXAD
import Derived.KernelRfl
set_option linter.unusedSectionVars false
set_option linter.unusedVariables false
set_option linter.unusedSimpArgs false
set_option maxRecDepth 100000
set_option maxHeartbeats 8000000
namespace Go.Proofs.YtpjpdohdceabpaaGreatDoor
open Go.RowKit
theorem mixed_ok : Tryz.prog.follows .mixedOrders = true := by kernel_rfl
theorem funcs_ok : Tryz.prog.funcs.toList.all V.okFn = true := by kernel_rfl
theorem row_parts : (((begin Tryz.prog (fun _ _ => 0) default).world.heap[0]?).bind Obj.row?).map (·.2) = some 260 := by kernel_rfl
theorem row_small : (((begin Tryz.prog (fun _ _ => 0) default).world.heap[1]?).bind Obj.row?).map (·.2) = some 428 := by kernel_rfl
def partsC : List Value := ([[], [107, 105, 113], [107, 105, 113], [107, 105], [107], [107], [107, 111, 105], [107, 111], [100], [], [], []] : List (List UInt8)).map fun s => Value.string ⟨⟨s⟩⟩
def smallC : List Value := ([2166136261, 16777619] : List Int).map fun z => Value.int .u32 z
def G0 : V.AH := [(0, .cells [.string ⟨⟨[]⟩⟩, .string ⟨⟨[107, 105, 113]⟩⟩, .string ⟨⟨[107, 105, 113]⟩⟩, .string ⟨⟨[107, 105]⟩⟩, .string ⟨⟨[107]⟩⟩, .string ⟨⟨[107]⟩⟩, .string ⟨⟨[107, 111, 105]⟩⟩, .string ⟨⟨[107, 111]⟩⟩, .string ⟨⟨[100]⟩⟩, .string ⟨⟨[]⟩⟩, .string ⟨⟨[]⟩⟩, .string ⟨⟨[]⟩⟩] 260 1 false), (1, .cells [.int .u32 (.ofNat 2166136261), .int .u32 (.ofNat 16777619)] 428 1 false)]
def MM : V.MemoG := V.noMemoG
theorem MMok : V.MemosG Tryz.prog 400 MM := V.noMemosG
theorem parts_lie {w : World} {l : List (String × DataW Unit)} (h : laidMet Tryz.prog l w) (hm : ("pannier/errors.parts", .agg (([[], [107, 105, 113], [107, 105, 113], [107, 105], [107], [107], [107, 111, 105], [107, 111], [100], [], [], []] : List (List UInt8)).map fun s => .lit (.string s))) ∈ l) (hs : w.ShapedOpen Tryz.prog) :
    w.heap[0]? = some (.cells partsC.toArray 260) := by
  obtain ⟨cs, fuel, p, h1, h2⟩ := laid_cells (t := 260) h hm (by kernel_rfl) (by kernel_rfl) hs row_parts (by decide +kernel)
  have := strs_of_array Tryz.underlying260 Tryz.underlying9 (by kernel_rfl) (by kernel_rfl) rfl h2
  rw [h1]
  obtain ⟨l⟩ := cs
  simp only at this
  rw [this]
  rfl
theorem small_lies {w : World} {l : List (String × DataW Unit)} (h : laidMet Tryz.prog l w) (hm : ("pannier/hash.small", .agg (([2166136261, 16777619] : List Int).map fun z => .lit (.int .u32 z))) ∈ l) (hs : w.ShapedOpen Tryz.prog) :
    w.heap[1]? = some (.cells smallC.toArray 428) := by
  obtain ⟨cs, fuel, p, h1, h2⟩ := laid_cells (t := 428) h hm (by kernel_rfl) (by kernel_rfl) hs row_small (by decide +kernel)
  have := ints_of_array Tryz.underlying428 Tryz.underlying263 (by kernel_rfl) (by kernel_rfl) rfl h2
  rw [h1]
  obtain ⟨l⟩ := cs
  simp only at this
  rw [this]
  rfl
theorem globals_lie {w : World} {l : List (String × DataW Unit)} (h : laidMet Tryz.prog l w) (hs : w.ShapedOpen Tryz.prog) (h0 : ("pannier/errors.parts", .agg (([[], [107, 105, 113], [107, 105, 113], [107, 105], [107], [107], [107, 111, 105], [107, 111], [100], [], [], []] : List (List UInt8)).map fun s => .lit (.string s))) ∈ l)
    (h1 : ("pannier/hash.small", .agg (([2166136261, 16777619] : List Int).map fun z => .lit (.int .u32 z))) ∈ l) : V.Sat 400 V.still (V.lk G0) w ∧ V.WF 400 (V.lk G0) 400 :=
  V.sat_globals (by kernel_rfl) fun i cs t es x hm => by
    simp only [G0, List.mem_cons, List.not_mem_nil, or_false, Prod.mk.injEq, V.AO.cells.injEq] at hm
    rcases hm with ⟨rfl, rfl, rfl, rfl, rfl⟩ | ⟨rfl, rfl, rfl, rfl, rfl⟩
    · exact parts_lie h h0 hs
    · exact small_lies h h1 hs
end Go.Proofs.YtpjpdohdceabpaaGreatDoor
