/- What the rows' lists of variables give; a world that meets them. -/
import Derived.Test.YtcamimfepcoggaaDoorLa7
import Derived.Test.YtcamimfepcoggaaDoorCards
import Derived.Test.YtcamimfepcoggaaDoorTie
import Derived.Deep.DeepHandedRow
import Derived.Deep.DeepWitnessRowRef
import Derived.Lib.LaidTab
import Derived.Lib.LaidIn
import Derived.Shelf.Vars
import Derived.ProofKit
import Derived.SizedLaws
import Derived.Stop.LaidErr
namespace Go.Proofs.YtcamimfepcoggaaDoor
open Go.ChangeShapes Go.WideShapes Go.ChangeAt Go.RowKit
theorem own : ownKnob Tryd.prog.godebug = none := by kernel_rfl
theorem gPow : Tryd.prog.globalNamed "internal/strconv.uint64pow10" = some 0 := by kernel_rfl
/-- A WORLD FOR THE WITNESS: the settled one, the listed variables holding what the text lays. -/
noncomputable def laidWorld (os : Os) : World :=
  let N := (World.settled Tryd.prog os).heap.size
  let w0 := World.holding Tryd.prog os ⟨#[.cells #[.string ⟨#[118, 97, 108, 117, 101, 32, 111, 117, 116, 32, 111, 102, 32, 114, 97, 110, 103, 101]⟩] 166, .cells #[.string ⟨#[105, 110, 118, 97, 108, 105, 100, 32, 115, 121, 110, 116, 97, 120]⟩] 166], #[], []⟩
  let put (h : Array Obj) (g : Nat) (cs : Array Value) : Array Obj := h.modify g fun
    | .cells _ t frozen => .cells cs t frozen
    | o => o
  let nums (k : IntKind) (l : List Int) : Array Value := (l.map fun z => Value.int k z).toArray
  let h0 := put (put w0.heap 5 #[.iface 164 (.pointer (some ⟨N, 0, none⟩))]) 4 #[.iface 164 (.pointer (some ⟨N + 1, 0, none⟩))]
  let h1 := put h0 0 (nums .u64 [1, 10, 100, 1000, 10000, 100000, 1000000, 10000000, 100000000, 1000000000, 10000000000, 100000000000, 1000000000000, 10000000000000, 100000000000000, 1000000000000000, 10000000000000000, 100000000000000000, 1000000000000000000, 10000000000000000000])
  let h2 := put h1 1 (nums .u8 [0, 1, 28, 2, 29, 14, 24, 3, 30, 22, 20, 15, 25, 17, 4, 8, 31, 27, 13, 23, 21, 19, 16, 7, 26, 12, 18, 6, 11, 5, 10, 9])
  let h3 := put h2 2 (nums .u8 [0, 1, 56, 2, 57, 49, 28, 3, 61, 58, 42, 50, 38, 29, 17, 4, 62, 47, 59, 36, 45, 43, 51, 22, 53, 39, 33, 30, 24, 18, 12, 5, 63, 55, 48, 27, 60, 41, 37, 16, 46, 35, 44, 21, 52, 32, 23, 11, 54, 26, 40, 15, 34, 20, 31, 10, 25, 14, 19, 9, 13, 8, 7, 6])
  let h4 := put h3 6 (Go.Pinned.utf8FirstZ.map fun z => Value.int .u8 ((z : Nat) : Int)).toArray
  let h5 := put h4 7 (nums .u8 [128, 191, 160, 191, 128, 159, 144, 191, 128, 143, 0, 0, 0, 0, 0, 0, 0, 0, 0, 0, 0, 0, 0, 0, 0, 0, 0, 0, 0, 0, 0, 0])
  { w0 with heap := h5 }
theorem laid_met (os : Os) (args : Array Value) : laidMet Tryd.prog Rows.asmAloneRow.laid ((laidWorld os).forCall (fun _ _ => 0) ⟨#[], args, []⟩).memory :=
  laidMet_of_run' 8 (by kernel_rfl) (by kernel_rfl)
theorem star164 : "*" ++ "errors.errorString" = "*errors.errorString" := by decide
theorem row164 (u : TypeId) (h : Tryd.prog.typeName? 3 u = some "*errors.errorString") : u = 164 :=
  typeName_ptr_named (nm := "errors.errorString") (by rw [star164]; kernel_rfl) (by kernel_rfl) (by decide) u (by rw [star164]; exact h)
theorem env_of {W : World} (hL : laidMetH Tryd.prog Rows.asmAloneRow.laid W) (hS : W.ShapedOpen Tryd.prog) : Env W := by
  have hL' : laidMet Tryd.prog Rows.asmAloneRow.laid W := hL
  have h4 := hL'.tail.tail.tail.tail
  obtain ⟨a4, t4, hv4, _⟩ := laid_sentinel (g := 5) h4 (by kernel_rfl) (by kernel_rfl) Tryd.underlying54 row164 Tryd.underlying164 Tryd.underlying166 rfl rfl Tryd.underlying9 (by kernel_rfl) (by kernel_rfl)
  obtain ⟨a5, t5, hv5, _⟩ := laid_sentinel (g := 4) h4.tail (by kernel_rfl) (by kernel_rfl) Tryd.underlying54 row164 Tryd.underlying164 Tryd.underlying166 rfl rfl Tryd.underlying9 (by kernel_rfl) (by kernel_rfl)
  have c4 := World.var?_cell (g := 5) (by kernel_rfl) hv4 0
  have c5 := World.var?_cell (g := 4) (by kernel_rfl) hv5 0
  have hg : Tryd.prog.globals.size = 8 := by kernel_rfl
  refine ⟨?_, ?_, ?_, ?_, ?_⟩
  · obtain ⟨cs, hh, _⟩ := hS.1 7 (List.replicate 32 (Value.int .u8 0)).toArray 162 (by rw [hg]; decide) (by kernel_rfl)
    exact (Array.getElem?_eq_some_iff.1 hh).1
  · exact Go.Proofs.cell_of_shapedOpen_int (t := 3) (zero := #[.int .i64 0]) hS (by rw [hg]; decide) (by kernel_rfl) rfl (by kernel_rfl) (by kernel_rfl) Tryd.underlying3
  · exact Lib.tabIs_of_head (t := 128) (e := 111) (n := 20) gPow (by kernel_rfl) Tryd.underlying128 Tryd.underlying111 (by kernel_rfl) (by kernel_rfl) hL'.tail.tail
  · exact ⟨_, c5, .inr ⟨_, _, rfl⟩⟩
  · exact ⟨_, c4, .inr ⟨_, _, rfl⟩⟩
end Go.Proofs.YtcamimfepcoggaaDoor
