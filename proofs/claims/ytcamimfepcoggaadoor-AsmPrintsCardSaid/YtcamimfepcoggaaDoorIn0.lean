/- The walk of instr.forms: it hands back the table of instructions; what was in memory stays as it was. -/
import Derived.Test.YtcamimfepcoggaaDoorShelf
import Derived.Test.YtcamimfepcoggaaDoorPl0
import Derived.WalkKit
import Derived.WalkSpells
import Derived.RowKit3
import Derived.Laws.Rows
import Derived.Laws.Tables
namespace Go.Proofs.YtcamimfepcoggaaDoor
open Go.RowKit
def formCells (f : Bs × Int × Int × Int) : List Value := [.string ⟨f.1.toArray⟩, .int .i64 f.2.1, .int .i64 f.2.2.1, .int .i64 f.2.2.2]
def formsV : Array Value := (formT.flatMap formCells).toArray
theorem old3 (w : World) (o1 o2 o3 : Obj) : (((w.alloc o1).alloc o2).alloc o3).heap[w.heap.size]? = some o1 := by
  rw [Lib.alloc_old _ _ _ (by simp; omega), Lib.alloc_old _ _ _ (by simp)]; exact heap_alloc_new w _
theorem below_setRow {B : Nat} {a w : World} (h : Below B a w) {g : Nat} (hg : B ≤ g) (cs : Array Value) : Below B a (w.setRow g cs) :=
  h.trans ⟨rfl, rfl, rfl, by simp, fun k hk => setRow_other w g k cs (by omega)⟩
set_option maxRecDepth 100000 in
set_option maxHeartbeats 8000000 in
theorem forms_any (w : World) :
    Calls Tryd.prog 41 #[] w fun e w' => e = .returned (.agg formsV) ∧ Below w.heap.size w w' := by
  have H3 := Lib.hid (old3 w)
  go_enter Tryd.func41, Tryd.ntmps41
  go_wp2_with (refine wpList_store_row rfl 94 (.tmp 0) (.tmp 46) rfl w.heap.size _ rfl rfl 94 _ (H3.out _ _ _) ?hi ?hold ?h1 ?_)
  case hi => kernel_rfl
  case hold => kernel_rfl
  case h1 => kernel_rfl
  go_wp2_with fail
  refine bodyPost_ret (v := .agg formsV) ?hv rfl ?_
  case hv =>
    rw [results_cell_row (fn := Tryd.f41) (p := 0) (ty := 94) rfl _ _ w.heap.size 94 _ _ _ rfl (setRow_heap _ _ _ _ _ _ (H3.out _ _ _)) Tryd.underlying94 rfl (by kernel_rfl)]
    congr 1
  exact ⟨rfl, below_setRow ((((Below.refl _ _).alloc (Nat.le_refl _) _).alloc (by simp) _).alloc (by simp; omega) _) (Nat.le_refl _) _⟩
end Go.Proofs.YtcamimfepcoggaaDoor
