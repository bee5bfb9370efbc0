/-
  The walks of page.May, the reference's May, the laws' plain; the law PageMay.
-/
import Derived.Test.YtkngmnfgdlnddaaOwnB
namespace Go.Proofs.Ytkngmnfgdlnddaa
open Go.RowKit

def mayB (a b : Int) : Bool := (a == 1024 || a == 2048 || a == 4096 || a == 8192) && (decide (1 ≤ b) && decide (b ≤ 32))

theorem bcell {W w1 : World} (hb : Below W.heap.size W w1) : (∀ b o, b < W.heap.size → w1.cell? ⟨b, o, none⟩ = W.cell? ⟨b, o, none⟩) ∧ (∀ b o, b < W.heap.size → w1.frozen? ⟨b, o, none⟩ = W.frozen? ⟨b, o, none⟩) :=
  ⟨fun b o h => hb.cell (p := ⟨b, o, none⟩) h, fun b o h => hb.frozen (p := ⟨b, o, none⟩) h⟩

def ab : ByteArray := ⟨#[97, 98]⟩
end Go.Proofs.Ytkngmnfgdlnddaa
