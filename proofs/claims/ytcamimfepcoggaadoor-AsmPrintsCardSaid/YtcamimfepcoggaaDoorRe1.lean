/- The walk of asm's read: the text read whole; a line that is wrong is told by its number. -/
import Derived.Test.YtcamimfepcoggaaDoorAl1
import Derived.Defers
import Derived.Recover
namespace Go.Proofs.YtcamimfepcoggaaDoor
open Go.RowKit
theorem catch_idle (p q : Addr) (w : World) :
    CallsD Tryd.prog 39 #[.pointer (some p), .pointer (some q)] .returning w fun e u' w' => e = .returned (.tuple #[]) ∧ u' = .returning ∧ w' = w := by
  refine callsD_of_wpS Tryd.func39 rfl fun c₀ cs hu => ?_
  apply wpS_seq
  apply wpS_region
  simp [wpOpsS, go_sem, recoverD, hu, Tryd.ntmps39, Exit.thenS]
  refine wpS_of_wp ?_
  go_wp2
  cases c₀
  simp_all [bodyPostS, results, Tryd.results39]
theorem assert_wrong (n : Int) (w : World) : (Instr.typeAssert (.iface 93 (.agg #[.int .i64 n])) 20 93 true).run Tryd.prog w = .ok (.tuple #[.agg #[.int .i64 n], .bool true]) w := by kernel_rfl
set_option maxRecDepth 100000 in
set_option maxHeartbeats 4000000 in
theorem catch_wrong (P : Nat) (n a b : Int) (older : List PanicEntry) (w : World) (hc : w.cell? ⟨P, 0, none⟩ = some (.int .i64 a)) (hz : w.frozen? ⟨P, 0, none⟩ = false) (hd : w.cell? ⟨P + 1, 0, none⟩ = some (.int .i64 b)) (hy : w.frozen? ⟨P + 1, 0, none⟩ = false) :
    CallsD Tryd.prog 39 #[.pointer (some ⟨P, 0, none⟩), .pointer (some ⟨P + 1, 0, none⟩)] (.panicking ({ v := wrongV n, recovered := false } :: older)) w fun e u' w' =>
      e = .returned (.tuple #[]) ∧ u' = .panicking ({ v := wrongV n, recovered := true } :: older) ∧ w' = ((w.alloc (.cells #[.int .i64 n] 93)).setCell ⟨P, 0, none⟩ (.int .i64 n)).setCell ⟨P + 1, 0, none⟩ (.int .i64 130) := by
  have l1 := World.block_lt_of_cell? w _ hc
  have l2 := World.block_lt_of_cell? w _ hd
  have hta := assert_wrong
  have c1 : ∀ o, (w.alloc o).cell? ⟨P, 0, none⟩ = some (.int .i64 a) := fun o => (World.cell?_of_block (a := ⟨P, 0, none⟩) (Below.heap_alloc w o P l1)).trans hc
  have c2 : ∀ o, (w.alloc o).cell? ⟨P + 1, 0, none⟩ = some (.int .i64 b) := fun o => (World.cell?_of_block (a := ⟨P + 1, 0, none⟩) (Below.heap_alloc w o (P + 1) l2)).trans hd
  have z1 : ∀ o, (w.alloc o).frozen? ⟨P, 0, none⟩ = false := fun o => (World.frozen?_of_block (a := ⟨P, 0, none⟩) (Below.heap_alloc w o P l1)).trans hz
  have z2 : ∀ o, (w.alloc o).frozen? ⟨P + 1, 0, none⟩ = false := fun o => (World.frozen?_of_block (a := ⟨P + 1, 0, none⟩) (Below.heap_alloc w o (P + 1) l2)).trans hy
  refine callsD_of_wpS Tryd.func39 rfl fun c₀ cs hu => ?_
  apply wpS_seq
  apply wpS_region
  simp [wpOpsS, go_sem, recoverD, hu, Tryd.ntmps39, Exit.thenS]
  refine wpS_of_wp ?_
  unfold wrongV
  go_wp2
  cases c₀
  simp_all [bodyPostS, results, Tryd.results39]
set_option maxRecDepth 100000 in
set_option maxHeartbeats 4000000 in
theorem read_long (s : ByteArray) (w : World) (hs : decide ((262144 : Int) < (s.size : Int)) = true) :
    Calls Tryd.prog 32 #[.string s] w fun e w' => e = .returned (.tuple #[.pointer none, .int .i64 0, .int .i64 2]) ∧ Below w.heap.size w w' := by
  have hs' : (262144 : Int) < (s.size : Int) := by simpa using hs
  go_enter_defers Tryd.func32, Tryd.ntmps32
  go_wp2
  simp [bodyPostD, Leaves, results, Tryd.results32, go_sem]
  exact ((Below.refl _ _).alloc (Nat.le_refl _) _).alloc (by simp) _
theorem St.low {w : World} {g : Nat} {t : ByteArray} {n : Int} {labs : List (Bs × Int)} {lines : List Ln} (h : St w g t n labs lines) {p : Addr} (hp : p.block < g) (u : Value) : St (w.setCell p u) g t n labs lines := by
  obtain ⟨v2, v3, hR, h2, h3⟩ := h
  exact ⟨v2, v3, (Below.heap_setCell w p u g (by omega)).trans hR, ownsRow_setCell_below h2 (Nat.lt_succ_of_lt hp) _, ownsRow_setCell_below h3 (Nat.lt_succ_of_lt hp) _⟩
theorem st_start (T : Bs) (w : World) (hE : Env w) : ∃ w1, w1 = ((w.alloc (.cells #[.int .i64 0] 3)).alloc (.cells #[.int .i64 0] 27)).alloc (.cells #[.string ⟨T.toArray⟩, .int .i64 0, .slice none 0 0, .slice none 0 0] 78) ∧
    St w1 (w.heap.size + 1 + 1) ⟨T.toArray⟩ 0 [] [] ∧ Env w1 ∧ Below w.heap.size w w1 ∧ w1.heap[w.heap.size]? = some (.cells #[.int .i64 0] 3 (0, 0)) ∧ w1.heap[w.heap.size + 1]? = some (.cells #[.int .i64 0] 27 (0, 0)) := by
  have hb : Below w.heap.size w (((w.alloc (.cells #[.int .i64 0] 3)).alloc (.cells #[.int .i64 0] 27)).alloc (.cells #[.string ⟨T.toArray⟩, .int .i64 0, .slice none 0 0, .slice none 0 0] 78)) :=
    (((Below.refl _ _).alloc (Nat.le_refl _) _).alloc (by simp) _).alloc (by simp; omega) _
  refine ⟨_, rfl, ⟨.slice none 0 0, .slice none 0 0, ?_, ⟨rfl, .inl ⟨rfl, rfl⟩⟩, ⟨rfl, .inl ⟨rfl, rfl⟩⟩⟩, hE.on hb, hb, ?_, ?_⟩
  · have := heap_alloc_new ((w.alloc (.cells #[.int .i64 0] 3)).alloc (.cells #[.int .i64 0] 27)) (.cells #[.string ⟨T.toArray⟩, .int .i64 0, .slice none 0 0, .slice none 0 0] 78)
    have hz : ((w.alloc (.cells #[.int .i64 0] 3)).alloc (.cells #[.int .i64 0] 27)).heap.size = w.heap.size + 1 + 1 := by simp
    rw [hz] at this
    exact this
  · rw [Below.heap_alloc _ _ _ (by simp; omega), Below.heap_alloc _ _ _ (by simp), heap_alloc_new]
  · rw [Below.heap_alloc _ _ _ (by simp)]
    have := heap_alloc_new (w.alloc (.cells #[.int .i64 0] 3)) (.cells #[.int .i64 0] 27)
    simpa using this
theorem all_ok {g : Nat} {T : Bs} {w : World} {labs : List (Bs × Int)} {lines : List Ln} (h : readL T = .ok (labs, lines)) (hE : Env w) (hg8 : 8 ≤ g) (hS : St w g ⟨T.toArray⟩ 0 [] []) (hs : T.length < 4294967281) :
    Calls Tryd.prog 40 #[.pointer (some ⟨g, 0, none⟩)] w fun e w' => e = .returned (.tuple #[]) ∧ (∃ t n, St w' g t n labs lines) ∧ Below g w w' := by
  refine (all_any g T w hE hg8 hS hs).mono ?_
  intro e w' hp
  unfold AllPost at hp
  rw [h] at hp
  exact ⟨hp.2.1, hp.2.2, hp.1⟩
theorem all_wrong {g : Nat} {T : Bs} {w : World} {n : Int} (h : readL T = .wrong n) (hE : Env w) (hg8 : 8 ≤ g) (hS : St w g ⟨T.toArray⟩ 0 [] []) (hs : T.length < 4294967281) :
    Calls Tryd.prog 40 #[.pointer (some ⟨g, 0, none⟩)] w fun e w' => e = wrongE n ∧ Below g w w' := by
  refine (all_any g T w hE hg8 hS hs).mono ?_
  intro e w' hp
  unfold AllPost at hp
  rw [h] at hp
  exact ⟨hp.2, hp.1⟩
set_option maxRecDepth 100000 in
set_option maxHeartbeats 4000000 in
theorem read_ok (T : Bs) (labs : List (Bs × Int)) (lines : List Ln) (w : World) (h : readL T = .ok (labs, lines)) (hE : Env w) (hs : T.length ≤ 262144) :
    Calls Tryd.prog 32 #[.string ⟨T.toArray⟩] w fun e w' => e = .returned (.tuple #[.pointer (some ⟨w.heap.size + 2, 0, none⟩), .int .i64 0, .int .i64 0]) ∧ Below w.heap.size w w' ∧ ∃ t n, St w' (w.heap.size + 2) t n labs lines := by
  have hmf : ∀ (fn : Fn) (first cap : Array Value) (w : World), (Instr.makeFunc fn first cap).run Tryd.prog w = .ok (.func fn first cap) w := fun _ _ _ _ => rfl
  have hs' : ¬ ((262144 : Int) < (T.length : Int)) := by omega
  go_enter_defers Tryd.func32, Tryd.ntmps32
  obtain ⟨w1, hw1, hst, hE1, hb1, p0, p1⟩ := st_start T w hE
  have HST := Lib.hid hst
  have HE1 := Lib.hid hE1
  have HB1 := Lib.hid hb1
  have HE8 := Lib.hid hE.size
  have HW := Lib.hid hw1
  have P0 := Lib.hid p0
  have P1 := Lib.hid p1
  clear hw1 hst hE1 hb1 hE p0 p1
  go_wp2_with fail
  rw [← HW.out]
  refine (all_ok h HE1.out (by have := HE8.out; omega) HST.out (by omega)).mono ?_
  rintro e w2 ⟨rfl, hst2, hb2⟩
  have HST2 := Lib.hid hst2
  have p0 := (hb2.block w.heap.size (by omega)).trans P0.out
  have p1 := (hb2.block (w.heap.size + 1) (by omega)).trans P1.out
  have HB2 := Lib.hid hb2
  clear hst2 hb2
  have q0 := Lib.cell_of_heap p0 0
  have q1 := Lib.cell_of_heap p1 0
  have f0 := Lib.frozen_of_heap p0 0
  have f1 := Lib.frozen_of_heap p1 0
  simp at q0 q1
  have r0 : (w2.setCell ⟨w.heap.size, 0, none⟩ (.int .i64 0)).heap[w.heap.size]? = some (.cells #[.int .i64 0] 3 (0, 0)) := heap_setCell_same _ _ _ _ _ _ p0
  have e0 : (w2.setCell ⟨w.heap.size, 0, none⟩ (.int .i64 0)).cell? ⟨w.heap.size, 0, none⟩ = some (.int .i64 0) := Lib.cell_of_heap r0 0
  have r1 : (w2.setCell ⟨w.heap.size, 0, none⟩ (.int .i64 0)).heap[w.heap.size + 1]? = some (.cells #[.int .i64 0] 27 (0, 0)) := (Below.heap_setCell _ _ _ _ (by simp)).trans p1
  have e1 : ((w2.setCell ⟨w.heap.size, 0, none⟩ (.int .i64 0)).setCell ⟨w.heap.size + 1, 0, none⟩ (.int .i64 0)).cell? ⟨w.heap.size + 1, 0, none⟩ = some (.int .i64 0) := Lib.cell_of_heap (heap_setCell_same _ _ _ _ _ _ r1) 0
  clear p0 p1 r0 r1
  dsimp only
  go_wp2_with fail
  refine leaves_cons (f := 39) (args := #[.pointer (some ⟨w.heap.size, 0, none⟩), .pointer (some ⟨w.heap.size + 1, 0, none⟩)]) (by simp) (by simp [go_sem]) ?_
  refine (catch_idle ⟨w.heap.size, 0, none⟩ ⟨w.heap.size + 1, 0, none⟩ _).mono ?_
  rintro e u' w'' ⟨rfl, rfl, rfl⟩
  simp [Leaves, settle, results, Tryd.results32, go_sem, e0, e1]
  refine ⟨((HB1.out.trans (HB2.out.mono (by omega))).setCell (Nat.le_refl _) _).setCell (Nat.le_succ _) _, ?_⟩
  obtain ⟨t, n, h⟩ := HST2.out
  exact ⟨t, n, (h.low (p := ⟨w.heap.size, 0, none⟩) (by simp; omega) _).low (p := ⟨w.heap.size + 1, 0, none⟩) (by simp) _⟩
set_option maxRecDepth 100000 in
set_option maxHeartbeats 4000000 in
theorem read_wrong (T : Bs) (n : Int) (w : World) (h : readL T = .wrong n) (hE : Env w) (hs : T.length ≤ 262144) :
    Calls Tryd.prog 32 #[.string ⟨T.toArray⟩] w fun e w' => e = .returned (.tuple #[.pointer (some ⟨w.heap.size + 2, 0, none⟩), .int .i64 n, .int .i64 130]) ∧ Below w.heap.size w w' := by
  have hmf : ∀ (fn : Fn) (first cap : Array Value) (w : World), (Instr.makeFunc fn first cap).run Tryd.prog w = .ok (.func fn first cap) w := fun _ _ _ _ => rfl
  have hs' : ¬ ((262144 : Int) < (T.length : Int)) := by omega
  go_enter_defers Tryd.func32, Tryd.ntmps32
  obtain ⟨w1, hw1, hst, hE1, hb1, p0, p1⟩ := st_start T w hE
  have HST := Lib.hid hst
  have HE1 := Lib.hid hE1
  have HB1 := Lib.hid hb1
  have HE8 := Lib.hid hE.size
  have HW := Lib.hid hw1
  have P0 := Lib.hid p0
  have P1 := Lib.hid p1
  clear hw1 hst hE1 hb1 hE p0 p1
  go_wp2_with fail
  rw [← HW.out]
  refine (all_wrong h HE1.out (by have := HE8.out; omega) HST.out (by omega)).mono ?_
  rintro e w2 ⟨rfl, hb2⟩
  have p0 := (hb2.block w.heap.size (by omega)).trans P0.out
  have p1 := (hb2.block (w.heap.size + 1) (by omega)).trans P1.out
  have HB2 := Lib.hid hb2
  clear hb2
  have l0 : w.heap.size < w2.heap.size := (Array.getElem?_eq_some_iff.1 p0).1
  have l1 : w.heap.size + 1 < w2.heap.size := (Array.getElem?_eq_some_iff.1 p1).1
  dsimp only
  refine leaves_cons (f := 39) (args := #[.pointer (some ⟨w.heap.size, 0, none⟩), .pointer (some ⟨w.heap.size + 1, 0, none⟩)]) (by simp) (by simp [go_sem]) ?_
  refine (catch_wrong w.heap.size n 0 0 [] w2 (Lib.cell_of_heap p0 0) (Lib.frozen_of_heap p0 0) (Lib.cell_of_heap p1 0) (Lib.frozen_of_heap p1 0)).mono ?_
  rintro e u' w'' ⟨rfl, rfl, rfl⟩
  have r0 : ((w2.alloc (.cells #[.int .i64 n] 93)).setCell ⟨w.heap.size, 0, none⟩ (.int .i64 n)).heap[w.heap.size]? = some (.cells #[.int .i64 n] 3 (0, 0)) := heap_setCell_same _ _ _ _ _ _ ((Below.heap_alloc _ _ _ l0).trans p0)
  have r1 : ((w2.alloc (.cells #[.int .i64 n] 93)).setCell ⟨w.heap.size, 0, none⟩ (.int .i64 n)).heap[w.heap.size + 1]? = some (.cells #[.int .i64 0] 27 (0, 0)) := (Below.heap_setCell _ _ _ _ (by simp)).trans ((Below.heap_alloc _ _ _ l1).trans p1)
  have e0 := Lib.cell_of_heap ((Below.heap_setCell ((w2.alloc (.cells #[.int .i64 n] 93)).setCell ⟨w.heap.size, 0, none⟩ (.int .i64 n)) ⟨w.heap.size + 1, 0, none⟩ (.int .i64 130) _ (by simp)).trans r0) 0
  have e1 : (((w2.alloc (.cells #[.int .i64 n] 93)).setCell ⟨w.heap.size, 0, none⟩ (.int .i64 n)).setCell ⟨w.heap.size + 1, 0, none⟩ (.int .i64 130)).cell? ⟨w.heap.size + 1, 0, none⟩ = some (.int .i64 130) := Lib.cell_of_heap (heap_setCell_same _ _ _ _ _ _ r1) 0
  simp at e0
  simp [Leaves, settle, results, Tryd.results32, go_sem, e0, e1]
  exact ((((HB1.out.trans (HB2.out.mono (by omega))).alloc (by omega) _).setCell (Nat.le_refl _) _).setCell (Nat.le_succ _) _)
end Go.Proofs.YtcamimfepcoggaaDoor
