/- Plain words: what Print comes to; and its walk. -/
import Derived.Test.YtcamimfepcoggaaDoorBu1
import Derived.Test.YtcamimfepcoggaaDoorSm1
import Derived.OwnWalk
import Derived.Lib.ItoaLen
namespace Go.Proofs.YtcamimfepcoggaaDoor
open Go.RowKit
/-- Is a place some jump's? -/
def aimsAt (k : Int) (i : Ins) : Bool := (targetOf i).2 && (targetOf i).1 == k
/-- How often a place is aimed at. -/
def cntAt (l : List Ins) (k : Nat) : Nat := (l.filter (aimsAt (k : Int))).length
/-- May an instruction stand in a program of n? -/
def okAt (n : Nat) (i : Ins) : Bool := insOk i && (!(targetOf i).2 || decide ((targetOf i).1 ≤ (n : Int)))
/-- What stands of a place. -/
def placeT (l : List Ins) (k : Nat) : Bs := (if 0 < cntAt l k then [58, 76] ++ Lib.itoa (k : Int) ++ [10] else []) ++ (match l[k]? with
  | some i => lineOf i ++ [10]
  | none => [])
def textK (l : List Ins) : Nat → Bs
  | 0 => []
  | k + 1 => textK l k ++ placeT l k
/-- A program's text, and the error. -/
def printL (l : List Ins) : Bs × Int := if 512 < l.length then ([], 3) else if l.all (okAt l.length) then (textK l (l.length + 1), 0) else ([], 130)
/-- The counts, as cells. -/
def cntC (n : Nat) (l : List Ins) : List Value := (List.range (n + 1)).map fun j => .int .i64 (cntAt l j : Nat)
theorem cntAt_app (l : List Ins) (i : Ins) (j : Nat) : cntAt (l ++ [i]) j = cntAt l j + (if aimsAt (j : Int) i then 1 else 0) := by
  unfold cntAt
  rw [List.filter_append, List.length_append]
  by_cases h : aimsAt (j : Int) i = true
  · simp [h]
  · simp [h]
theorem cntC_no (n : Nat) (l : List Ins) (i : Ins) (h : (targetOf i).2 = false) : cntC n (l ++ [i]) = cntC n l := by
  unfold cntC
  refine List.map_congr_left fun j _ => ?_
  rw [cntAt_app]
  simp [aimsAt, h]
theorem cntC_yes (n : Nat) (l : List Ins) (i : Ins) (t : Nat) (h : (targetOf i).2 = true) (ht : (targetOf i).1 = (t : Int)) : cntC n (l ++ [i]) = (cntC n l).set t (.int .i64 ((cntAt l t : Nat) + 1)) := by
  apply List.ext_getElem
  · simp [cntC]
  · intro j h1 h2
    rw [List.getElem_set]
    simp only [cntC, List.getElem_map, List.getElem_range]
    rw [cntAt_app]
    by_cases e : t = j
    · subst e
      simp [aimsAt, h, ht]
    · rw [if_neg e]
      have : aimsAt (j : Int) i = false := by
        simp [aimsAt, h, ht]; omega
      simp [this]
theorem cntAt_le (l : List Ins) (k : Nat) : cntAt l k ≤ l.length := List.length_filter_le _ _
theorem target_range (i : Ins) (h : insOk i = true) (ht : (targetOf i).2 = true) : 0 ≤ (targetOf i).1 ∧ (targetOf i).1 ≤ 512 := by
  obtain ⟨op, a, b, c⟩ := i
  unfold targetOf at ht ⊢
  by_cases h8 : op = 8
  · subst h8
    simp [insOk, isOp, formOf, formT, fitsB, withinB] at h
    simp; omega
  · by_cases h9 : op = 9
    · subst h9
      simp [insOk, isOp, formOf, formT, fitsB, withinB] at h
      simp; omega
    · simp [h8, h9] at ht
theorem two_pow_le (f : Int) (h : 1 ≤ f) (h' : f ≤ 16) : (2 : Int) ^ f.toNat ≤ 65536 := by
  have h1 : f.toNat ≤ 16 := by omega
  have h2 : (2 : Nat) ^ f.toNat ≤ 2 ^ 16 := Nat.pow_le_pow_right (by decide) h1
  have h3 : ((2 ^ f.toNat : Nat) : Int) ≤ ((2 ^ 16 : Nat) : Int) := by exact_mod_cast h2
  simpa using h3
theorem fits_range {s n f : Int} (h : fitsB s n f = true) : -9223372036854775808 ≤ n ∧ n ≤ 9223372036854775807 := by
  unfold fitsB withinB at h
  by_cases h1 : s = 1
  · rw [if_pos h1] at h; simp at h; omega
  · by_cases h2 : s = 2
    · rw [if_neg h1, if_pos h2] at h; simp at h; omega
    · by_cases h3 : s = 3
      · rw [if_neg h1, if_neg h2, if_pos h3] at h; simp at h; omega
      · by_cases h4 : s = 4
        · rw [if_neg h1, if_neg h2, if_neg h3, if_pos h4] at h; simp at h; omega
        · by_cases h5 : s = 5
          · rw [if_neg h1, if_neg h2, if_neg h3, if_neg h4, if_pos h5] at h; simp at h; omega
          · by_cases h6 : s = 6
            · rw [if_neg h1, if_neg h2, if_neg h3, if_neg h4, if_neg h5, if_pos h6] at h
              simp at h
              have := two_pow_le f h.1.1 h.1.2
              omega
            · rw [if_neg h1, if_neg h2, if_neg h3, if_neg h4, if_neg h5, if_neg h6] at h
              simp at h; omega
theorem insOk_range {i : Ins} (h : insOk i = true) : (-9223372036854775808 ≤ i.2.1 ∧ i.2.1 ≤ 9223372036854775807) ∧ (-9223372036854775808 ≤ i.2.2.1 ∧ i.2.2.1 ≤ 9223372036854775807) ∧ (-9223372036854775808 ≤ i.2.2.2 ∧ i.2.2.2 ≤ 9223372036854775807) := by
  simp only [insOk, Bool.and_eq_true] at h
  exact ⟨fits_range h.1.1.2, fits_range h.1.2, fits_range h.2⟩
theorem inf3 : Option.map (fun i => (i.zero, i.size, i.bytes)) (Tryd.prog.info? 3) = some (some (.int .i64 0), 1, 8) := by kernel_rfl
theorem print_long (ao : Option Addr) (n cap : Nat) (w : World) (h : (512 : Int) < (n : Int)) :
    Calls Tryd.prog 9 #[.slice ao n cap] w fun e w' => e = .returned (.tuple #[.string ⟨#[]⟩, .int .i64 3]) ∧ Below w.heap.size w w' := by
  go_enter Tryd.func9, Tryd.ntmps9
  go_wp2
  go_ret2
  exact ⟨rfl, Below.refl _ _⟩
theorem made_zero (n : Nat) : (madeCells (Value.cells (.int .i64 0)) ((n + 1) * 1)).toList = cntC n [] := by
  apply List.ext_getElem
  · simp [madeCells, cntC]
  · intro j h1 h2
    simp [madeCells, cntC, cntAt, Value.cells, Nat.mod_one]
theorem own_put {w : World} {B e size g m cap : Nat} {xs : List Value} (h : w.ownsRow B e size (.slice (some ⟨g, 0, none⟩) m cap) m xs) (k : Nat) (v : Value) :
    (w.setCell ⟨g, k, none⟩ v).ownsRow B e size (.slice (some ⟨g, 0, none⟩) m cap) m (xs.set k v) := by
  rcases h.2 with ⟨h1, _⟩ | ⟨g', cap', cur, hv, h1, h2, h3, h4, h5, h6⟩
  · cases h1
  · injection hv with hd _ hc
    injection hd with hd
    injection hd with hd
    subst hd hc
    refine ⟨by rw [List.length_set]; exact h.1, .inr ⟨g, cap, cur.setIfInBounds k v, rfl, h1, heap_setCell_same _ _ _ _ _ _ h2, h3, h4, by simp [h5], ?_⟩⟩
    rw [← h6]
    simp [List.take_set]
theorem own_frozen {w : World} {B e size g m cap : Nat} {xs : List Value} (h : w.ownsRow B e size (.slice (some ⟨g, 0, none⟩) m cap) m xs) (j : Nat) : w.frozen? ⟨g, j, none⟩ = false := by
  rcases h.2 with ⟨h1, _⟩ | ⟨g', cap', cur, hv, h1, h2, h3⟩
  · cases h1
  · injection hv with hd
    injection hd with hd
    injection hd with hd
    subst hd
    exact Lib.frozen_of_heap h2 j
theorem cnt_cell {w : World} {B g n : Nat} {l : List Ins} (h : w.ownsRow B 3 1 (.slice (some ⟨g, 0, none⟩) (n + 1) (n + 1)) (n + 1) (cntC n l)) (t : Nat) (ht : t ≤ n) : w.cell? ⟨g, t, none⟩ = some (.int .i64 (cntAt l t : Nat)) := by
  have := h.cells (g := g) rfl t (.int .i64 (cntAt l t : Nat)) (by
    unfold cntC
    rw [List.getElem?_map, List.getElem?_range (by omega)]
    rfl)
  simpa only [Addr.add_lit, Nat.zero_add] using this
theorem take_succ_get {l : List Ins} {k : Nat} (h : k < l.length) {i : Ins} (hi : l[k] = i) : l.take (k + 1) = l.take k ++ [i] := by
  rw [List.take_succ_eq_append_getElem h, hi]
theorem own_lift {w w' : World} {B e size n : Nat} {v : Value} {xs : List Value} (h : w.ownsRow B e size v n xs) (hb : Below w.heap.size w w') : w'.ownsRow B e size v n xs :=
  h.kept (row := none) ⟨hb.os, hb.tape, hb.output, hb.size, fun k hk _ => hb.block k hk⟩ (by cases v.ownBlock <;> simp)
theorem chk_ok {op a b c : Int} (h : insOk (op, a, b, c) = true) (w : World) :
    Calls Tryd.prog 18 #[insV op a b c] w fun e w' => e = .returned (.int .i64 0) ∧ Below w.heap.size w w' := by
  refine (check_any op a b c w).mono ?_
  rintro e w' ⟨rfl, hb⟩
  refine ⟨?_, hb⟩
  rw [h]
  rfl
theorem chk_bad {op a b c : Int} (h : insOk (op, a, b, c) = false) (w : World) :
    Calls Tryd.prog 18 #[insV op a b c] w fun e w' => e = .returned (.int .i64 100) ∧ Below w.heap.size w w' := by
  refine (check_any op a b c w).mono ?_
  rintro e w' ⟨rfl, hb⟩
  refine ⟨?_, hb⟩
  rw [h]
  rfl
theorem tgt_eq {op a b c tv : Int} {tb : Bool} (h : targetOf (op, a, b, c) = (tv, tb)) (w : World) :
    Calls Tryd.prog 17 #[insV op a b c] w fun e w' => e = .returned (.tuple #[.int .i64 tv, .bool tb]) ∧ Below w.heap.size w w' := by
  refine (target_any op a b c w).mono ?_
  rintro e w' ⟨rfl, hb⟩
  refine ⟨?_, hb⟩
  rw [h]
theorem print_bad {l : List Ins} {k : Nat} (hn : l.length ≤ 512) (hk : k < l.length) {i : Ins} (hi : l[k] = i) (h : okAt l.length i = false) : printL l = ([], 130) := by
  unfold printL
  rw [if_neg (by omega), if_neg]
  intro ha
  rw [List.all_eq_true] at ha
  have := ha l[k] (List.getElem_mem hk)
  rw [hi, h] at this
  cases this
theorem ret_print {l : List Ins} {t : Bs} {n : Int} (h : printL l = (t, n)) : Ending.returned (.tuple #[.string ⟨t.toArray⟩, .int .i64 n]) = .returned (.tuple #[.string ⟨(printL l).1.toArray⟩, .int .i64 (printL l).2]) := by rw [h]
theorem i25 (w w1 : World) (op a b c : Int) (hb1 : Below (w.alloc (.cells #[.int .i64 op, .int .i64 a, .int .i64 b, .int .i64 c] 25)).heap.size (w.alloc (.cells #[.int .i64 op, .int .i64 a, .int .i64 b, .int .i64 c] 25)) w1) :
    w1.cell? ⟨w.heap.size, 0, none⟩ = some (.int .i64 op) ∧ w1.cell? ⟨w.heap.size, 1, none⟩ = some (.int .i64 a) ∧ w1.cell? ⟨w.heap.size, 2, none⟩ = some (.int .i64 b) ∧ w1.cell? ⟨w.heap.size, 3, none⟩ = some (.int .i64 c) := by
  have h : w1.heap[w.heap.size]? = some (.cells #[.int .i64 op, .int .i64 a, .int .i64 b, .int .i64 c] 25 (0, 0)) := (hb1.block w.heap.size (by simp)).trans (heap_alloc_new w _)
  exact ⟨by rw [Lib.cell_of_heap h]; rfl, by rw [Lib.cell_of_heap h]; rfl, by rw [Lib.cell_of_heap h]; rfl, by rw [Lib.cell_of_heap h]; rfl⟩
theorem name_len (op : Int) : (formOf op).1.length ≤ 5 := by
  unfold formOf
  split
  · rename_i h
    have : ∀ k : Nat, k ≤ 20 → (formT.getD k ([], 0, 0, 0)).1.length ≤ 5 := by decide
    exact this _ (by omega)
  · simp
theorem mark_len (q : Int) : (markOf q).length ≤ 3 := by
  unfold markOf
  split
  · simp
  · split <;> simp
theorem part_len (q n : Int) (h0 : -9223372036854775808 ≤ n) (h1 : n ≤ 9223372036854775807) : (partOf q n).length ≤ 24 := by
  unfold partOf
  have := mark_len q
  have := Lib.itoa_length_le n h0 h1
  rw [List.length_append]; omega
theorem lineOf_len {i : Ins} (h : insOk i = true) : (lineOf i).length ≤ 80 := by
  obtain ⟨⟨a0, a1⟩, ⟨b0, b1⟩, c0, c1⟩ := insOk_range h
  have hn := name_len i.1
  have ha := part_len (sortsOf i.1).1 i.2.1 a0 a1
  have hb := part_len (sortsOf i.1).2.1 i.2.2.1 b0 b1
  have hc := part_len (sortsOf i.1).2.2 i.2.2.2 c0 c1
  unfold lineOf
  generalize operands i.1 = N
  have e : N = 0 ∨ N = 1 ∨ N = 2 ∨ ∃ m, N = m + 3 := by
    rcases N with _ | _ | _ | m
    · exact .inl rfl
    · exact .inr (.inl rfl)
    · exact .inr (.inr (.inl rfl))
    · exact .inr (.inr (.inr ⟨m, rfl⟩))
  rcases e with rfl | rfl | rfl | ⟨m, rfl⟩
  · show (formOf i.1).1.length ≤ 80
    omega
  · show ((formOf i.1).1 ++ partOf (sortsOf i.1).1 i.2.1).length ≤ 80
    rw [List.length_append]; omega
  · show ((formOf i.1).1 ++ partOf (sortsOf i.1).1 i.2.1 ++ partOf (sortsOf i.1).2.1 i.2.2.1).length ≤ 80
    rw [List.length_append, List.length_append]; omega
  · show ((formOf i.1).1 ++ partOf (sortsOf i.1).1 i.2.1 ++ partOf (sortsOf i.1).2.1 i.2.2.1 ++ partOf (sortsOf i.1).2.2 i.2.2.2).length ≤ 80
    rw [List.length_append, List.length_append, List.length_append]; omega
theorem okAt_ok {n : Nat} {i : Ins} (h : okAt n i = true) : insOk i = true := by
  unfold okAt at h
  rw [Bool.and_eq_true] at h
  exact h.1
theorem placeT_len {l : List Ins} (ha : ∀ (j : Nat) (h : j < l.length), okAt l.length l[j] = true) (k : Nat) (hk : k ≤ 1000) : (placeT l k).length ≤ 200 := by
  unfold placeT
  rw [List.length_append]
  have h1 : (if 0 < cntAt l k then [58, 76] ++ Lib.itoa (k : Int) ++ [10] else [] : Bs).length ≤ 30 := by
    split
    · have := Lib.itoa_length_le (k : Int) (by omega) (by omega)
      rw [List.length_append, List.length_append]
      simp; omega
    · simp
  have h2 : (match l[k]? with
    | some i => lineOf i ++ [10]
    | none => [] : Bs).length ≤ 81 := by
    cases hl : l[k]? with
    | none => simp
    | some i =>
      obtain ⟨hk', he⟩ := List.getElem?_eq_some_iff.1 hl
      have := lineOf_len (okAt_ok (he ▸ ha k hk'))
      simp only [List.length_append, List.length_cons, List.length_nil]; omega
  exact Nat.le_trans (Nat.add_le_add h1 h2) (by decide)
theorem textK_len {l : List Ins} (ha : ∀ (j : Nat) (h : j < l.length), okAt l.length l[j] = true) : ∀ (k : Nat), k ≤ 1000 → (textK l k).length ≤ k * 200
  | 0, _ => by simp [textK]
  | k + 1, h => by
    have := textK_len ha k (by omega)
    have := placeT_len ha k (by omega)
    unfold textK
    rw [List.length_append]; omega
theorem own_same {w w' : World} {B e size g m cap : Nat} {xs : List Value} (h : w.ownsRow B e size (.slice (some ⟨g, 0, none⟩) m cap) m xs) (he : w'.heap[g]? = w.heap[g]?) : w'.ownsRow B e size (.slice (some ⟨g, 0, none⟩) m cap) m xs := by
  refine ⟨h.1, ?_⟩
  rcases h.2 with ⟨h1, _⟩ | ⟨g', cap', cur, hv, h1, h2, h3⟩
  · cases h1
  · injection hv with hd _ hc
    injection hd with hd
    injection hd with hd
    subst hd hc
    exact .inr ⟨g, cap, cur, rfl, h1, he.trans h2, h3⟩
theorem bu_lift {B b : Nat} {xs : List Value} {w w' : World} (h : Lib.IsBuilder 52 5 B b xs w) (hb : Below w.heap.size w w') : Lib.IsBuilder 52 5 B b xs w' := by
  have one : ∀ p, Lib.BuilderAt 52 5 B b p xs w → Lib.BuilderAt 52 5 B b p xs w' := fun p h => by
    have hlt := h.lt
    obtain ⟨h1, v, h2, h3, h4⟩ := h
    exact ⟨h1, v, (hb.block b hlt).trans h2, own_lift h3 hb, h4⟩
  rcases h with h | h
  · exact .inl (one _ h)
  · exact .inr (one _ h)
theorem lab_cells (X pre : Bs) : Lib.byteCells pre ++ Lib.strCells ((⟨#[58, 76]⟩ : ByteArray) ++ ⟨X.toArray⟩ ++ ⟨#[10]⟩) = Lib.byteCells (pre ++ ([58, 76] ++ X ++ [10])) := by
  rw [Lib.byteCells_append, Lib.strCells_eq, app_data, app_data]
theorem line_cells (X pre : Bs) : Lib.byteCells pre ++ Lib.strCells ((⟨X.toArray⟩ : ByteArray) ++ ⟨#[10]⟩) = Lib.byteCells (pre ++ (X ++ [10])) := by
  rw [Lib.byteCells_append, Lib.strCells_eq, app_data]
theorem text_step {l : List Ins} {k : Nat} {i : Ins} {pre : Bs} (hp : textK l k ++ (if 0 < cntAt l k then [58, 76] ++ Lib.itoa (k : Int) ++ [10] else []) = pre) (h : k < l.length) (hi : l[k] = i) : textK l (k + 1) = pre ++ (lineOf i ++ [10]) := by
  rw [← hp]
  show textK l k ++ placeT l k = _
  unfold placeT
  rw [List.getElem?_eq_getElem h, hi]
  exact (List.append_assoc _ _ _).symm
theorem text_last {l : List Ins} {k : Nat} {pre : Bs} (hp : textK l k ++ (if 0 < cntAt l k then [58, 76] ++ Lib.itoa (k : Int) ++ [10] else []) = pre) (h : ¬ k < l.length) : textK l (k + 1) = pre := by
  rw [← hp]
  show textK l k ++ placeT l k = _
  unfold placeT
  rw [List.getElem?_eq_none (by omega), List.append_nil]
theorem line_ok {op a b c : Int} (w : World) (hE : Env w) (h : insOk (op, a, b, c) = true) :
    Calls Tryd.prog 11 #[insV op a b c] w fun e w' => e = .returned (.tuple #[.string ⟨(lineOf (op, a, b, c)).toArray⟩, .int .i64 0]) ∧ Below w.heap.size w w' := by
  obtain ⟨⟨a0, a1⟩, ⟨b0, b1⟩, c0, c1⟩ := insOk_range h
  refine (line_any op a b c w hE a0 a1 b0 b1 c0 c1).mono ?_
  rintro e w' ⟨rfl, hb⟩
  refine ⟨?_, hb⟩
  rw [h]; rfl
theorem print_good {l : List Ins} (hn : l.length ≤ 512) (ha : ∀ (j : Nat) (h : j < l.length), okAt l.length l[j] = true) : printL l = (textK l (l.length + 1), 0) := by
  unfold printL
  rw [if_neg (by omega), if_pos]
  rw [List.all_eq_true]
  intro x hx
  obtain ⟨j, hj, rfl⟩ := List.getElem_of_mem hx
  exact ha j hj
set_option maxRecDepth 100000 in
set_option maxHeartbeats 4000000 in
theorem print_some (l : List Ins) (g kk cap : Nat) (w : World) (hE : Env w) (hn : l.length ≤ 512) (hg : g < w.heap.size)
    (hc : ∀ (i : Nat) (h : i < l.length), w.cell? ⟨g, kk + i * 4, none⟩ = some (.int .i64 l[i].1) ∧ w.cell? ⟨g, kk + i * 4 + 1, none⟩ = some (.int .i64 l[i].2.1) ∧ w.cell? ⟨g, kk + i * 4 + 2, none⟩ = some (.int .i64 l[i].2.2.1) ∧ w.cell? ⟨g, kk + i * 4 + 3, none⟩ = some (.int .i64 l[i].2.2.2)) :
    Calls Tryd.prog 9 #[.slice (some ⟨g, kk, none⟩) l.length cap] w fun e w' => e = .returned (.tuple #[.string ⟨(printL l).1.toArray⟩, .int .i64 (printL l).2]) ∧ Below w.heap.size w w' := by
  obtain ⟨i0, hi0, hz0, hz1, hz2⟩ := info_parts inf3
  have HC := Lib.hid hc
  have HG := Lib.hid hg
  have HE := Lib.hid hE
  clear hc hg hE
  have hn' : ¬ (512 : Int) < (l.length : Int) := by omega
  go_enter Tryd.func9, Tryd.ntmps9
  go_wp2_with (at_make; refine wpList_make_full _ rfl _ _ 46 rfl w.heap.size 3 i0 (.int .i64 0) 1 Tryd.underlying46 hi0 hz0 hz1 .i64 .i64 _ _ (l.length + 1) rfl rfl (by omega) (by omega) (by rw [hz2]; omega) (by unfold maxLen; omega) (Nat.le_refl _) ?_; intro w0 hown0 hgrow0)
  rw [made_zero] at hown0
  have hb0 : Below w.heap.size w w0 := (Below.refl _ _).grown hgrow0 (Nat.le_refl _) (fun k h => by cases h)
  have HO0 := Lib.hid hown0
  have HB0 := Lib.hid hb0
  clear hown0 hgrow0 hb0
  go_loopw [23] (fun i wr => ∃ k : Nat, k ≤ l.length ∧ i = .int .i64 k ∧ Below w.heap.size w wr ∧ wr.ownsRow w.heap.size 3 1 (.slice (some ⟨w.heap.size, 0, none⟩) (l.length + 1) (l.length + 1)) (l.length + 1) (cntC l.length (l.take k)) ∧ Hid (∀ (j : Nat) (h : j < l.length), j < k → okAt l.length l[j] = true)) (fun i _ => l.length - (intOf i).toNat)
  case atStart => exact ⟨0, Nat.zero_le _, rfl, HB0.out, HO0.out, fun j h h' => absurd h' (by omega)⟩
  case round =>
    obtain ⟨k, hk, rfl, hb, ho, HA⟩ := hrel
    have HB := Lib.hid hb
    have HO := Lib.hid ho
    clear hb ho
    by_cases hlt : k < l.length
    · obtain ⟨a0, a1, a2, a3⟩ := HC.out k hlt
      have b0 := (HB.out.cell (p := ⟨g, kk + k * 4, none⟩) HG.out).trans a0
      have b1 := (HB.out.cell (p := ⟨g, kk + k * 4 + 1, none⟩) HG.out).trans a1
      have b2 := (HB.out.cell (p := ⟨g, kk + k * 4 + 2, none⟩) HG.out).trans a2
      have b3 := (HB.out.cell (p := ⟨g, kk + k * 4 + 3, none⟩) HG.out).trans a3
      clear a0 a1 a2 a3
      generalize hi : l[k] = i at b0 b1 b2 b3
      obtain ⟨op, a, b, c⟩ := i
      have HI := Lib.hid hi
      clear hi
      dsimp only at b0 b1 b2 b3
      cases ht : targetOf (op, a, b, c) with
      | mk tv tb =>
      have HT := Lib.hid ht
      go_wp2_with (go_at_call 17; refine (tgt_eq ht _).mono ?_)
      rintro e w1 ⟨rfl, hb1⟩
      obtain ⟨c0, c1, c2, c3⟩ := i25 wr w1 op a b c hb1
      have hbw1 : Below w.heap.size w w1 := (HB.out.alloc HB.out.size _).trans (hb1.mono (by have := HB.out.size; simp; omega))
      have ho1 := own_lift (HO.out.alloc _) hb1
      have HB1 := Lib.hid hbw1
      have HO1 := Lib.hid ho1
      clear hb1 hbw1 ho1 ht b0 b1 b2 b3
      cases hok : insOk (op, a, b, c) with
      | false =>
        go_wp2_with (go_at_call 18; refine (chk_bad hok _).mono ?_)
        rintro e w2 ⟨rfl, hb2⟩
        have HOK := Lib.hid hok
        have HB2 := Lib.hid hb2
        clear hok hb2
        go_wp2
        go_ret2
        exact ⟨ret_print (print_bad hn hlt HI.out (by unfold okAt; rw [HOK.out]; rfl)), HB1.out.trans (HB2.out.mono HB1.out.size)⟩
      | true =>
        go_wp2_with (go_at_call 18; refine (chk_ok hok _).mono ?_)
        rintro e w2 ⟨rfl, hb2⟩
        have HOK := Lib.hid hok
        have ho2 := own_lift HO1.out hb2
        have HO2 := Lib.hid ho2
        have HB2 := Lib.hid hb2
        clear hok hb2 ho2
        cases tb with
        | false =>
          go_wp2
          go_roundw
          case rel => exact ⟨k + 1, by omega, by go_num, HB1.out.trans (HB2.out.mono HB1.out.size), by
              rw [take_succ_get hlt HI.out, cntC_no _ _ _ (by rw [HT.out])]
              exact HO2.out, Lib.hid fun j h hj => by
              by_cases e : j = k
              · subst e
                rw [HI.out]
                unfold okAt
                rw [HOK.out, HT.out]; rfl
              · exact HA.out j h (by omega)⟩
          case measure => simp [intOf]; omega
        | true =>
          obtain ⟨t, ht⟩ : ∃ t : Nat, tv = (t : Int) := by
            have := target_range (op, a, b, c) HOK.out (by rw [HT.out])
            rw [HT.out] at this
            exact ⟨tv.toNat, by have := this.1; dsimp only at this; omega⟩
          subst ht
          by_cases hle : t ≤ l.length
          · have d0 := cnt_cell HO2.out t hle
            have f0 := own_frozen HO2.out t
            have hcl : cntAt (l.take k) t ≤ 512 := Nat.le_trans (cntAt_le _ _) (by rw [List.length_take]; omega)
            have hi0 : (0 : Int) ≤ (t : Int) := by omega
            have hi1 : (t : Int) < (l.length : Int) + 1 := by omega
            have hi2 : ¬ (l.length : Int) < (t : Int) := by omega
            go_wp2
            go_roundw
            case rel => exact ⟨k + 1, by omega, by go_num, (HB1.out.trans (HB2.out.mono HB1.out.size)).setCell (Nat.le_refl _) _, by
                rw [take_succ_get hlt HI.out, cntC_yes _ _ _ t (by rw [HT.out]) (by rw [HT.out])]
                exact own_put HO2.out t _, Lib.hid fun j h hj => by
                by_cases e : j = k
                · subst e
                  rw [HI.out]
                  unfold okAt
                  rw [HOK.out, HT.out]
                  simp; omega
                · exact HA.out j h (by omega)⟩
            case measure => simp [intOf]; omega
          · have hi2 : (l.length : Int) < (t : Int) := by omega
            go_wp2
            go_ret2
            exact ⟨ret_print (print_bad hn hlt HI.out (by
              unfold okAt
              rw [HOK.out, HT.out]
              simp; omega)), HB1.out.trans (HB2.out.mono HB1.out.size)⟩
    · obtain rfl : k = l.length := by omega
      have hall : ∀ (j : Nat) (h : j < l.length), okAt l.length l[j] = true := fun j h => HA.out j h h
      have hbu := Lib.fresh_isBuilder 52 5 wr
      have hga : w.heap.size < wr.heap.size := (HO.out.lt w.heap.size rfl).2
      have hoa := own_same (w' := wr.alloc (.cells #[.pointer none, .slice none 0 0] 52)) HO.out (Below.heap_alloc wr _ _ hga)
      rw [List.take_length] at hoa
      have HAL := Lib.hid hall
      have HBU := Lib.hid hbu
      have HOA := Lib.hid hoa
      have HGA := Lib.hid hga
      clear hall hbu hoa hga HA HO
      obtain ⟨wa, hwa⟩ : ∃ x : World, x = wr := ⟨wr, rfl⟩
      subst hwa
      go_wp2
      go_loopw [54] (fun i w2 => ∃ k : Nat, k ≤ l.length + 1 ∧ i = .int .i64 k ∧ Below w.heap.size w w2 ∧ wa.heap.size ≤ w2.heap.size ∧ w2.ownsRow w.heap.size 3 1 (.slice (some ⟨w.heap.size, 0, none⟩) (l.length + 1) (l.length + 1)) (l.length + 1) (cntC l.length l) ∧ Lib.IsBuilder 52 5 wa.heap.size wa.heap.size (Lib.byteCells (textK l k)) w2) (fun i _ => l.length + 1 - (intOf i).toNat)
      case atStart => exact ⟨0, by omega, rfl, HB.out.alloc HB.out.size _, by simp, HOA.out, HBU.out⟩
      case round =>
        obtain ⟨k, hk, rfl, hb2, hs2, ho2, hu2⟩ := hrel
        have HB2 := Lib.hid hb2
        have HO2 := Lib.hid ho2
        have HU2 := Lib.hid hu2
        have HS2 := Lib.hid hs2
        clear hb2 ho2 hu2 hs2
        by_cases hle : k < l.length + 1
        · have d0 := cnt_cell HO2.out k (by omega)
          have hI : (k : Int) < (l.length : Int) + 1 := by omega
          by_cases hp : 0 < cntAt l k
          · have hpI : (0 : Int) < (cntAt l k : Int) := by omega
            go_wp2_with (go_at_call 20; refine (itoa_any (k : Int) (by omega) (by omega) _ (HE.out.on (HB2.out))).mono ?_)
            rintro e w3 ⟨rfl, hb3⟩
            have hb3' : Below w.heap.size w w3 := HB2.out.trans (hb3.mono HB2.out.size)
            have hu3 := bu_lift HU2.out hb3
            have ho3 := own_lift HO2.out hb3
            have HB3 := Lib.hid hb3'
            have HU3 := Lib.hid hu3
            have HO3 := Lib.hid ho3
            have HS3 := Lib.hid (Nat.le_trans HS2.out hb3.size)
            clear hb3 hb3' hu3 ho3
            have hz1 : (⟨#[58, 76]⟩ : ByteArray).size + (Lib.itoa (k : Int)).length ≤ 100 := by
              have := Lib.itoa_length_le (k : Int) (by omega) (by omega)
              show 2 + _ ≤ 100
              omega
            have hz2 : (Lib.itoa (k : Int)).length ≤ 21 := Lib.itoa_length_le (k : Int) (by omega) (by omega)
            have htk := textK_len HAL.out k (by omega)
            go_wp2_with (go_at_call 19; refine (writeString_any wa.heap.size wa.heap.size _ _ _ HU3.out ?_ HS3.out).mono ?_)
            · rw [Lib.byteCells_length, app_size, app_size, mk_size (Lib.itoa (k : Int))]
              show _ + (2 + _ + 1) ≤ _
              omega
            rintro e w4 ⟨rfl, hu4, hb4⟩
            rw [lab_cells] at hu4
            have hb4' : Below w.heap.size w w4 := HB3.out.trans (hb4.mono HB.out.size)
            have ho4 := own_same HO3.out (hb4.block w.heap.size HGA.out)
            have HB4 := Lib.hid hb4'
            have HU4 : Hid (Lib.IsBuilder 52 5 wa.heap.size wa.heap.size (Lib.byteCells (textK l k ++ ([58, 76] ++ Lib.itoa (k : Int) ++ [10]))) w4) := Lib.hid (.inr hu4)
            have HO4 := Lib.hid ho4
            have HS4 := Lib.hid (Nat.le_trans HS3.out hb4.size)
            clear hb4 hb4' hu4 ho4
            have hpl : (textK l k ++ ([58, 76] ++ Lib.itoa (k : Int) ++ [10])).length ≤ 200000 := by rw [List.length_append, List.length_append, List.length_append]; simp; omega
            by_cases hlk : k < l.length
            · obtain ⟨a0, a1, a2, a3⟩ := HC.out k hlk
              have b0 := (HB4.out.cell (p := ⟨g, kk + k * 4, none⟩) HG.out).trans a0
              have b1 := (HB4.out.cell (p := ⟨g, kk + k * 4 + 1, none⟩) HG.out).trans a1
              have b2 := (HB4.out.cell (p := ⟨g, kk + k * 4 + 2, none⟩) HG.out).trans a2
              have b3 := (HB4.out.cell (p := ⟨g, kk + k * 4 + 3, none⟩) HG.out).trans a3
              clear a0 a1 a2 a3
              have hok := okAt_ok (HAL.out k hlk)
              generalize hi : l[k] = i at b0 b1 b2 b3 hok
              obtain ⟨op, a, b, c⟩ := i
              have HI := Lib.hid hi
              have hll := lineOf_len hok
              have HOK := Lib.hid hok
              clear hi hok
              dsimp only at b0 b1 b2 b3
              have hkI : (k : Int) < (l.length : Int) := by omega
              go_wp2_with (go_at_call 11; refine (line_ok _ (HE.out.on HB4.out) HOK.out).mono ?_)
              rintro e w5 ⟨rfl, hb5⟩
              have hb5' : Below w.heap.size w w5 := HB4.out.trans (hb5.mono HB4.out.size)
              have hu5 := bu_lift HU4.out hb5
              have ho5 := own_lift HO4.out hb5
              have HB5 := Lib.hid hb5'
              have HU5 := Lib.hid hu5
              have HO5 := Lib.hid ho5
              have HS5 := Lib.hid (Nat.le_trans HS4.out hb5.size)
              clear hb5 hb5' hu5 ho5 b0 b1 b2 b3
              have hz3 : (lineOf (op, a, b, c)).length + 1 ≤ 9223372036854775807 := by omega
              go_wp2_with (go_at_call 19; refine (writeString_any wa.heap.size wa.heap.size _ _ _ HU5.out ?_ HS5.out).mono ?_)
              · rw [Lib.byteCells_length, app_size, mk_size]
                show _ + (_ + 1) ≤ _
                omega
              rintro e w6 ⟨rfl, hu6, hb6⟩
              rw [line_cells] at hu6
              have hb6' : Below w.heap.size w w6 := HB5.out.trans (hb6.mono HB.out.size)
              have ho6 := own_same HO5.out (hb6.block w.heap.size HGA.out)
              have HB6 := Lib.hid hb6'
              have HU6 := Lib.hid hu6
              have HO6 := Lib.hid ho6
              have HS6 := Lib.hid (Nat.le_trans HS5.out hb6.size)
              clear hb6 hb6' hu6 ho6
              go_wp2
              go_roundw
              case rel => exact ⟨k + 1, by omega, by go_num, HB6.out, HS6.out, HO6.out, by rw [text_step (pre := textK l k ++ ([58, 76] ++ Lib.itoa (k : Int) ++ [10])) (by rw [if_pos hp]) hlk HI.out]; exact .inr HU6.out⟩
              case measure => simp [intOf]; omega
            · have hkI : ¬ (k : Int) < (l.length : Int) := by omega
              go_wp2
              go_roundw
              case rel => exact ⟨k + 1, by omega, by go_num, HB4.out, HS4.out, HO4.out, by rw [text_last (pre := textK l k ++ ([58, 76] ++ Lib.itoa (k : Int) ++ [10])) (by rw [if_pos hp]) hlk]; exact HU4.out⟩
              case measure => simp [intOf]; omega
          · have hpI : ¬ (0 : Int) < (cntAt l k : Int) := by omega
            have htk := textK_len HAL.out k (by omega)
            have hpl : (textK l k).length ≤ 200000 := by omega
            by_cases hlk : k < l.length
            · obtain ⟨a0, a1, a2, a3⟩ := HC.out k hlk
              have b0 := (HB2.out.cell (p := ⟨g, kk + k * 4, none⟩) HG.out).trans a0
              have b1 := (HB2.out.cell (p := ⟨g, kk + k * 4 + 1, none⟩) HG.out).trans a1
              have b2 := (HB2.out.cell (p := ⟨g, kk + k * 4 + 2, none⟩) HG.out).trans a2
              have b3 := (HB2.out.cell (p := ⟨g, kk + k * 4 + 3, none⟩) HG.out).trans a3
              clear a0 a1 a2 a3
              have hok := okAt_ok (HAL.out k hlk)
              generalize hi : l[k] = i at b0 b1 b2 b3 hok
              obtain ⟨op, a, b, c⟩ := i
              have HI := Lib.hid hi
              have hll := lineOf_len hok
              have HOK := Lib.hid hok
              clear hi hok
              dsimp only at b0 b1 b2 b3
              have hkI : (k : Int) < (l.length : Int) := by omega
              go_wp2_with (go_at_call 11; refine (line_ok _ (HE.out.on HB2.out) HOK.out).mono ?_)
              rintro e w5 rfl hb5
              have hb5' : Below w.heap.size w w5 := HB2.out.trans (hb5.mono HB2.out.size)
              have hu5 := bu_lift HU2.out hb5
              have ho5 := own_lift HO2.out hb5
              have HB5 := Lib.hid hb5'
              have HU5 := Lib.hid hu5
              have HO5 := Lib.hid ho5
              have HS5 := Lib.hid (Nat.le_trans HS2.out hb5.size)
              clear hb5 hb5' hu5 ho5 b0 b1 b2 b3
              have hz3 : (lineOf (op, a, b, c)).length + 1 ≤ 9223372036854775807 := by omega
              go_wp2_with (go_at_call 19; refine (writeString_any wa.heap.size wa.heap.size _ _ _ HU5.out ?_ HS5.out).mono ?_)
              · rw [Lib.byteCells_length, app_size, mk_size]
                show _ + (_ + 1) ≤ _
                omega
              rintro e w6 ⟨rfl, hu6, hb6⟩
              rw [line_cells] at hu6
              have hb6' : Below w.heap.size w w6 := HB5.out.trans (hb6.mono HB.out.size)
              have ho6 := own_same HO5.out (hb6.block w.heap.size HGA.out)
              have HB6 := Lib.hid hb6'
              have HU6 := Lib.hid hu6
              have HO6 := Lib.hid ho6
              have HS6 := Lib.hid (Nat.le_trans HS5.out hb6.size)
              clear hb6 hb6' hu6 ho6
              go_wp2
              go_roundw
              case rel => exact ⟨k + 1, by omega, by go_num, HB6.out, HS6.out, HO6.out, by rw [text_step (pre := textK l k) (by rw [if_neg hp, List.append_nil]) hlk HI.out]; exact .inr HU6.out⟩
              case measure => simp [intOf]; omega
            · have hkI : ¬ (k : Int) < (l.length : Int) := by omega
              go_wp2
              go_roundw
              case rel => exact ⟨k + 1, by omega, by go_num, HB2.out, HS2.out, HO2.out, by rw [text_last (pre := textK l k) (by rw [if_neg hp, List.append_nil]) hlk]; exact HU2.out⟩
              case measure => simp [intOf]; omega
        · obtain rfl : k = l.length + 1 := by omega
          have hI : ¬ ((l.length : Int) + 1 < (l.length : Int) + 1) := by omega
          go_wp2_with (go_at_call 21; refine (string_any wa.heap.size wa.heap.size _ _ HU2.out HS2.out).mono ?_)
          rintro e w3 rfl hb3
          have hb3' : Below w.heap.size w w3 := HB2.out.trans (hb3.mono HB.out.size)
          have HB3 := Lib.hid hb3'
          clear hb3 hb3'
          go_wp2
          go_ret2
          exact ⟨ret_print (print_good hn HAL.out), HB3.out⟩
set_option maxRecDepth 100000 in
set_option maxHeartbeats 4000000 in
theorem print_nil (ao : Option Addr) (cap : Nat) (w : World) :
    Calls Tryd.prog 9 #[.slice ao 0 cap] w fun e w' => e = .returned (.tuple #[.string ⟨#[]⟩, .int .i64 0]) ∧ Below w.heap.size w w' := by
  obtain ⟨i0, hi0, hz0, hz1, hz2⟩ := info_parts inf3
  go_enter Tryd.func9, Tryd.ntmps9
  go_wp2_with (at_make; refine wpList_make_full _ rfl _ _ 46 rfl w.heap.size 3 i0 (.int .i64 0) 1 Tryd.underlying46 hi0 hz0 hz1 .i64 .i64 _ _ 1 rfl rfl (by omega) (by omega) (by rw [hz2]; omega) (by unfold maxLen; omega) (Nat.le_refl _) ?_; intro w0 hown0 hgrow0)
  have hown0' : w0.ownsRow w.heap.size 3 1 (.slice (some ⟨w.heap.size, 0, none⟩) 1 1) 1 (cntC 0 []) := by
    rw [made_zero 0] at hown0
    exact hown0
  have hb0 : Below w.heap.size w w0 := (Below.refl _ _).grown hgrow0 (Nat.le_refl _) (fun k h => by cases h)
  have d0 := cnt_cell hown0' 0 (Nat.le_refl _)
  have hga : w.heap.size < w0.heap.size := (hown0'.lt w.heap.size rfl).2
  have HB0 := Lib.hid hb0
  have HBU := Lib.hid (Lib.fresh_isBuilder 52 5 w0)
  have d1 : (w0.alloc (.cells #[.pointer none, .slice none 0 0] 52)).cell? ⟨w.heap.size, 0, none⟩ = some (.int .i64 0) := by
    rw [World.cell?_alloc_past _ _ _ hga]
    exact d0
  clear hown0 hgrow0 hb0 hown0' d0
  refine wp_loop_rounds 1 ?_
  rw [rounds_succ]
  go_wp2
  refine wp_loop_rounds 2 ?_
  rw [rounds_succ]
  go_wp2
  rw [rounds_succ]
  go_wp2_with (go_at_call 21; refine (string_any w0.heap.size w0.heap.size [] _ HBU.out (by simp)).mono ?_)
  rintro e w3 ⟨rfl, hb3⟩
  go_wp2
  go_ret2
  exact ⟨rfl, (HB0.out.alloc HB0.out.size _).trans (hb3.mono HB0.out.size)⟩
/-- Print, of any program. -/
theorem print_any (v : Value) (l : List Ins) (w : World) (hE : Env w) (h : InsAt w v l) :
    Calls Tryd.prog 9 #[v] w fun e w' => e = .returned (.tuple #[.string ⟨(printL l).1.toArray⟩, .int .i64 (printL l).2]) ∧ Below w.heap.size w w' := by
  by_cases hn : 512 < l.length
  · obtain ⟨ao, cap, rfl, _⟩ := h
    have hp : printL l = ([], 3) := by unfold printL; rw [if_pos hn]
    rw [hp]
    exact print_long ao l.length cap w (by omega)
  · by_cases h0 : l = []
    · subst h0
      obtain ⟨ao, cap, rfl, _⟩ := h
      exact print_nil ao cap w
    · obtain ⟨g, kk, cap, rfl, hg, hc⟩ := h.cells h0
      exact print_some l g kk cap w hE (by omega) hg hc
end Go.Proofs.YtcamimfepcoggaaDoor
