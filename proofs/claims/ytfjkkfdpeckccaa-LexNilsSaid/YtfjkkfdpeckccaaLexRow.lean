/- What all rows of layer 1 want besides their walks. -/
import Derived.Test.YtfjkkfdpeckccaaLexS
import Derived.HandedShaped
import Derived.ProofKit
namespace Go.Proofs.Ytfjkkfdpeckccaa
open Go.ChangeShapes Go.WideShapes Go.ChangeAt Go.RowKit

theorem Try.own : ownKnob Try.prog.godebug = none := by kernel_rfl
theorem Try.laidOut : laidOutB Try.prog = true := by kernel_rfl

theorem Step.toBelow {w w' : World} (h : Step (fun _ => False) w w') : Below w.heap.size w w' := ⟨h.os, h.tape, h.output, h.size, fun k hk => h.block k hk (fun e => e)⟩

end Go.Proofs.Ytfjkkfdpeckccaa
