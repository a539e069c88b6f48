/- The walk of asm's reader's all. -/
import Derived.Test.YtcamimfepcoggaaDoorPl3
namespace Go.Proofs.YtcamimfepcoggaaDoor
open Go.RowKit
attribute [local go_sem ↓] Go.wp_at_zero Go.wp_at_succ
def AllPost (g : Nat) (r : Res (List (Bs × Int) × List Ln)) (w : World) (e : Ending) (w' : World) : Prop :=
  Below g w w' ∧ match r with
    | .ok (labs, lines) => e = .returned (.tuple #[]) ∧ ∃ t n, St w' g t n labs lines
    | .wrong n => e = wrongE n
theorem own_slice {w : World} {B e size n : Nat} {v : Value} {xs : List Value} (h : w.ownsRow B e size v n xs) : ∃ d cap, v = .slice d n cap := by
  rcases h.2 with ⟨rfl, h0⟩ | ⟨gr, cap, cur, rfl, _⟩
  · exact ⟨none, 0, by rw [h0]⟩
  · exact ⟨_, _, rfl⟩
theorem cutCol_yes (l : Bs) (w : World) :
    Calls Tryd.prog 46 #[.string ⟨(58 :: l).toArray⟩, .string ⟨#[58]⟩] w fun e w' => e = .returned (.tuple #[.string ⟨l.toArray⟩, .bool true]) ∧ w = w' := by
  refine (cutPrefix_any ⟨(58 :: l).toArray⟩ ⟨#[58]⟩ w).mono ?_
  rintro e w' ⟨rfl, h⟩
  exact ⟨rfl, h⟩
theorem cutCol_no (s : Bs) (w : World) (h : Lib.hasPrefix s [58] = false) :
    Calls Tryd.prog 46 #[.string ⟨s.toArray⟩, .string ⟨#[58]⟩] w fun e w' => e = .returned (.tuple #[.string ⟨s.toArray⟩, .bool false]) ∧ w = w' := by
  refine (cutPrefix_any ⟨s.toArray⟩ ⟨#[58]⟩ w).mono ?_
  rintro e w' ⟨rfl, hw⟩
  refine ⟨?_, hw⟩
  have h2 : Lib.trimPrefix s [58] = s := by unfold Lib.trimPrefix; rw [h]; rfl
  show Ending.returned (.tuple #[.string ⟨(Lib.trimPrefix s [58]).toArray⟩, .bool (Lib.hasPrefix s [58])]) = _
  rw [h2, h]
theorem st_next {w1 wr : World} {g : Nat} {y : ByteArray} {n' : Int} {v2 v3 : Value} {labs : List (Bs × Int)} {lines : List Ln} (hR : RB w1 g y n' v2 v3) (hg : wr.grownBy w1 (some g))
    (hO2 : wr.ownsRow (g + 1) 106 2 v2 labs.length (labCells labs)) (hO3 : wr.ownsRow (g + 1) 80 6 v3 lines.length (linCells lines)) : St w1 g y n' labs lines :=
  ⟨v2, v3, hR, hO2.kept hg (.inr (ownB_ge hO2 g (Nat.lt_succ_self g))), hO3.kept hg (.inr (ownB_ge hO3 g (Nat.lt_succ_self g)))⟩
def txtLen (w : World) (g : Nat) : Nat := match w.cell? ⟨g, 0, none⟩ with
  | some (.string s) => s.size
  | _ => 0
theorem txtLen_eq {w : World} {g : Nat} {y : Bs} (h : w.cell? ⟨g, 0, none⟩ = some (.string ⟨y.toArray⟩)) : txtLen w g = y.length := by
  unfold txtLen
  rw [h]
  rfl
theorem below_g {w wr w1 : World} {g : Nat} (h : Below g w wr) (hg : wr.grownBy w1 (some g)) (hl : g < wr.heap.size) : Below g w w1 :=
  h.grown hg (Nat.le_of_lt hl) (fun k hk => by injection hk with hk; omega)
theorem own_set {w : World} {B e size g m cap : Nat} {xs : List Value} (h : w.ownsRow B e size (.slice (some ⟨g, 0, none⟩) m cap) m xs) (k : Nat) (v : Value) :
    (w.setCell ⟨g, k, none⟩ v).ownsRow B e size (.slice (some ⟨g, 0, none⟩) m cap) m (xs.set k v) := by
  rcases h.2 with ⟨h1, _⟩ | ⟨g', cap', cur, hv, h1, h2, h3, h4, h5, h6⟩
  · cases h1
  · injection hv with hd _ hc
    injection hd with hd
    injection hd with hd
    subst hd hc
    refine ⟨by rw [List.length_set]; exact h.1, .inr ⟨g, cap, cur.setIfInBounds k v, rfl, h1, heap_setCell_same _ _ _ _ _ _ h2, h3, h4, by simp [h5], ?_⟩⟩
    rw [← h6]
    simp [List.take_set]
theorem lin_set4 (done rest : List Ln) (l : Ln) (j : Ins) :
    ((((linCells (done ++ l :: rest)).set (done.length * 6) (.int .i64 j.1)).set (done.length * 6 + 1) (.int .i64 j.2.1)).set (done.length * 6 + 2) (.int .i64 j.2.2.1)).set (done.length * 6 + 3) (.int .i64 j.2.2.2) = linCells (done ++ ⟨j, l.lab, l.n⟩ :: rest) := by
  have e : ∀ x : Ln, linCells (done ++ x :: rest) = linCells done ++ (lnCells x ++ linCells rest) := by intro x; simp [linCells]
  rw [e, e]
  have hl := linCells_length done
  rw [List.set_append_right _ _ (by omega), List.set_append_right _ _ (by omega), List.set_append_right _ _ (by omega), List.set_append_right _ _ (by omega)]
  rw [hl]
  simp [lnCells]
theorem own_set4 {w w0 : World} {g gr m cap : Nat} {done rest : List Ln} {l : Ln} {t : ByteArray} {n : Int} {v2 v3 : Value} {m2 : Nat} {xs2 : List Value} (h : w.ownsRow (g + 1) 80 6 (.slice (some ⟨gr, 0, none⟩) m cap) m (linCells (done ++ l :: rest))) (j : Ins)
    (hr : RB w g t n v2 v3) (h2 : w.ownsRow (g + 1) 106 2 v2 m2 xs2) (hb : Below g w0 w) (hgr : g < gr) :
    ((((w.setCell ⟨gr, done.length * 6, none⟩ (.int .i64 j.1)).setCell ⟨gr, done.length * 6 + 1, none⟩ (.int .i64 j.2.1)).setCell ⟨gr, done.length * 6 + 2, none⟩ (.int .i64 j.2.2.1)).setCell ⟨gr, done.length * 6 + 3, none⟩ (.int .i64 j.2.2.2)).ownsRow (g + 1) 80 6 (.slice (some ⟨gr, 0, none⟩) m cap) m (linCells (done ++ ⟨j, l.lab, l.n⟩ :: rest)) ∧
    RB ((((w.setCell ⟨gr, done.length * 6, none⟩ (.int .i64 j.1)).setCell ⟨gr, done.length * 6 + 1, none⟩ (.int .i64 j.2.1)).setCell ⟨gr, done.length * 6 + 2, none⟩ (.int .i64 j.2.2.1)).setCell ⟨gr, done.length * 6 + 3, none⟩ (.int .i64 j.2.2.2)) g t n v2 v3 ∧
    ((((w.setCell ⟨gr, done.length * 6, none⟩ (.int .i64 j.1)).setCell ⟨gr, done.length * 6 + 1, none⟩ (.int .i64 j.2.1)).setCell ⟨gr, done.length * 6 + 2, none⟩ (.int .i64 j.2.2.1)).setCell ⟨gr, done.length * 6 + 3, none⟩ (.int .i64 j.2.2.2)).ownsRow (g + 1) 106 2 v2 m2 xs2 ∧
    Below g w0 ((((w.setCell ⟨gr, done.length * 6, none⟩ (.int .i64 j.1)).setCell ⟨gr, done.length * 6 + 1, none⟩ (.int .i64 j.2.1)).setCell ⟨gr, done.length * 6 + 2, none⟩ (.int .i64 j.2.2.1)).setCell ⟨gr, done.length * 6 + 3, none⟩ (.int .i64 j.2.2.2)) := by
  have hG : w.grownBy ((((w.setCell ⟨gr, done.length * 6, none⟩ (.int .i64 j.1)).setCell ⟨gr, done.length * 6 + 1, none⟩ (.int .i64 j.2.1)).setCell ⟨gr, done.length * 6 + 2, none⟩ (.int .i64 j.2.2.1)).setCell ⟨gr, done.length * 6 + 3, none⟩ (.int .i64 j.2.2.2)) (some gr) :=
    Lib.grownBy_setB (Lib.grownBy_setB (Lib.grownBy_setB (Lib.grownBy_setCell _ _ _ _) _ _) _ _) _ _
  refine ⟨?_, hr.grown hG (by intro h; injection h with h; omega), h2.kept hG ((own_ne h2 h (by decide)).imp_right fun h => h), hb.grown hG (Nat.le_of_lt hr.lt) (fun k hk => by injection hk with hk; omega)⟩
  have := own_set (own_set (own_set (own_set h (done.length * 6) (.int .i64 j.1)) (done.length * 6 + 1) (.int .i64 j.2.1)) (done.length * 6 + 2) (.int .i64 j.2.2.1)) (done.length * 6 + 3) (.int .i64 j.2.2.2)
  rw [lin_set4] at this
  exact this
theorem aim_eq (i : Ins) (a : Int) (w : World) :
    Calls Tryd.prog 51 #[insV i.1 i.2.1 i.2.2.1 i.2.2.2, .int .i64 a] w fun e w' => e = .returned (insV (aimOf i a).1 (aimOf i a).2.1 (aimOf i a).2.2.1 (aimOf i a).2.2.2) ∧ Below w.heap.size w w' :=
  aim_any i.1 i.2.1 i.2.2.1 i.2.2.2 a w
theorem lin_frozen {w : World} {B gr m cap : Nat} {xs : List Value} (h : w.ownsRow B 80 6 (.slice (some ⟨gr, 0, none⟩) m cap) m xs) : ∀ j, w.frozen? ⟨gr, j, none⟩ = false := by
  rcases h.2 with ⟨h1, _⟩ | ⟨g, cap', cur, hv, h1, h2, h3⟩
  · cases h1
  · injection hv with hd
    injection hd with hd
    injection hd with hd
    subst hd
    exact fun j => Lib.frozen_of_heap h2 j
theorem check_ok {i : Ins} (h : insOk i = true) (w : World) :
    Calls Tryd.prog 18 #[insV i.1 i.2.1 i.2.2.1 i.2.2.2] w fun e w' => e = .returned (.int .i64 0) ∧ Below w.heap.size w w' := by
  refine (check_any i.1 i.2.1 i.2.2.1 i.2.2.2 w).mono ?_
  rintro e w' ⟨rfl, hb⟩
  refine ⟨?_, hb⟩
  rw [h]
  rfl
theorem check_bad {i : Ins} (h : insOk i = false) (w : World) :
    Calls Tryd.prog 18 #[insV i.1 i.2.1 i.2.2.1 i.2.2.2] w fun e w' => e = .returned (.int .i64 100) ∧ Below w.heap.size w w' := by
  refine (check_any i.1 i.2.1 i.2.2.1 i.2.2.2 w).mono ?_
  rintro e w' ⟨rfl, hb⟩
  refine ⟨?_, hb⟩
  rw [h]
  rfl
theorem _root_.Go.RowKit.Below.undrew {B : Nat} {a b : World} (h : Below B a.drew b) : Below B a b := ⟨h.os, h.tape, h.output, h.size, h.block⟩
theorem own_some {w : World} {B e size n : Nat} {v : Value} {xs : List Value} (h : w.ownsRow B e size v n xs) (hn : 0 < n) :
    ∃ g cap cur, v = .slice (some ⟨g, 0, none⟩) n cap ∧ B ≤ g ∧ w.heap[g]? = some (.cells cur e (0, 0)) ∧ (n ≤ cap ∧ cap ≤ maxLen ∧ cur.size = cap * size ∧ cur.toList.take (n * size) = xs) := by
  rcases h.2 with ⟨_, h0⟩ | ⟨g, cap, cur, rfl, h1, h2, h3⟩
  · omega
  · exact ⟨g, cap, cur, rfl, h1, h2, h3⟩
theorem lin_at (l : Ln) (rest : List Ln) (j : Nat) (u : Value) (hj : (lnCells l)[j]? = some u) : ∀ done : List Ln, (linCells (done ++ l :: rest))[done.length * 6 + j]? = some u
  | [] => by
    have : j < (lnCells l).length := (List.getElem?_eq_some_iff.1 hj).1
    have e : linCells ([] ++ l :: rest) = lnCells l ++ linCells rest := rfl
    rw [e, List.getElem?_append_left (by simpa using this)]
    simpa using hj
  | x :: d => by
    have ih := lin_at l rest j u hj d
    have e : linCells ((x :: d) ++ l :: rest) = lnCells x ++ linCells (d ++ l :: rest) := rfl
    rw [e, List.getElem?_append_right (by simp [lnCells]; omega)]
    have : (x :: d).length * 6 + j - (lnCells x).length = d.length * 6 + j := by simp [lnCells]; omega
    rw [this]
    exact ih
theorem lin_cell {w : World} {B gr m cap : Nat} {done rest : List Ln} {l : Ln} (h : w.ownsRow B 80 6 (.slice (some ⟨gr, 0, none⟩) m cap) m (linCells (done ++ l :: rest))) (j : Nat) (u : Value) (hj : (lnCells l)[j]? = some u) :
    w.cell? ⟨gr, done.length * 6 + j, none⟩ = some u := by
  have := h.cells (g := gr) rfl _ _ (lin_at l rest j u hj done)
  simp only [Addr.add_lit, Nat.zero_add] at this
  exact this
def prep (done : List Ln) : Res (List Ln) → Res (List Ln)
  | .ok xs => .ok (done ++ xs)
  | .wrong n => .wrong n
theorem prep_go {labs : List (Bs × Int)} {l x : Ln} {done rest : List Ln} (h : fixLine labs l = some x) : prep done (pass2 labs (l :: rest)) = prep (done ++ [x]) (pass2 labs rest) := by
  conv => lhs; unfold pass2
  rw [h]
  cases pass2 labs rest <;> simp [prep]
theorem prep_bad {labs : List (Bs × Int)} {l : Ln} {done rest : List Ln} (h : fixLine labs l = none) : prep done (pass2 labs (l :: rest)) = .wrong l.n := by
  unfold pass2
  rw [h]
  rfl
theorem instruction_no {g : Nat} {s : Bs} {t : ByteArray} {n : Int} {labs : List (Bs × Int)} {lines : List Ln} {w : World} (h : insOf lines.length s = none) (hE : Env w) (hg8 : 8 ≤ g) (hS : St w g t n labs lines) (hs : s.length < 4294967281) :
    Calls Tryd.prog 50 #[.pointer (some ⟨g, 0, none⟩), .string ⟨s.toArray⟩] w fun e w' => e = wrongE n ∧ Below g w w' := by
  refine (instruction_any g ⟨s.toArray⟩ t n labs lines w hE hg8 hS (by rw [mk_size]; exact hs)).mono ?_
  intro e w' hp
  rw [show (⟨s.toArray⟩ : ByteArray).data.toList = s from rfl, h] at hp
  exact ⟨hp.2, hp.1⟩
theorem instruction_yes {g : Nat} {s : Bs} {t : ByteArray} {n : Int} {labs : List (Bs × Int)} {lines : List Ln} {w : World} {p : Ins × Bs} (h : insOf lines.length s = some p) (hE : Env w) (hg8 : 8 ≤ g) (hS : St w g t n labs lines) (hs : s.length < 4294967281) :
    Calls Tryd.prog 50 #[.pointer (some ⟨g, 0, none⟩), .string ⟨s.toArray⟩] w fun e w' => e = .returned (.tuple #[]) ∧ St w' g t n labs (lines ++ [⟨p.1, p.2, n⟩]) ∧ Below g w w' := by
  refine (instruction_any g ⟨s.toArray⟩ t n labs lines w hE hg8 hS (by rw [mk_size]; exact hs)).mono ?_
  intro e w' hp
  rw [show (⟨s.toArray⟩ : ByteArray).data.toList = s from rfl, h] at hp
  exact ⟨hp.2.1, hp.2.2, hp.1⟩
theorem insOf_lt {k : Nat} {s : Bs} {p : Ins × Bs} (h : insOf k s = some p) : k < 512 := by
  unfold insOf at h
  split at h
  · assumption
  · cases h
theorem find_no {g B : Nat} {t : ByteArray} {n : Int} {v2 v3 : Value} {ls : List (Bs × Int)} {l : Bs} {w : World} (h : findL ls l = none)
    (hR : RB w g t n v2 v3) (hO : w.ownsRow B 106 2 v2 ls.length (labCells ls)) (hl : ls.length ≤ 4294967296) :
    Calls Tryd.prog 47 #[.pointer (some ⟨g, 0, none⟩), .string ⟨l.toArray⟩] w fun e w' => e = .returned (.tuple #[.int .i64 0, .bool false]) ∧ Below w.heap.size w w' := by
  refine (find_any g B t n v2 v3 ls ⟨l.toArray⟩ w hR hO hl).mono ?_
  rintro e w' ⟨rfl, hb⟩
  refine ⟨?_, hb⟩
  rw [show (⟨l.toArray⟩ : ByteArray).data.toList = l from rfl, h]
  rfl
theorem find_hit {g B : Nat} {t : ByteArray} {n a : Int} {v2 v3 : Value} {ls : List (Bs × Int)} {l : Bs} {w : World} (h : findL ls l = some a)
    (hR : RB w g t n v2 v3) (hO : w.ownsRow B 106 2 v2 ls.length (labCells ls)) (hl : ls.length ≤ 4294967296) :
    Calls Tryd.prog 47 #[.pointer (some ⟨g, 0, none⟩), .string ⟨l.toArray⟩] w fun e w' => e = .returned (.tuple #[.int .i64 a, .bool true]) ∧ Below w.heap.size w w' := by
  refine (find_any g B t n v2 v3 ls ⟨l.toArray⟩ w hR hO hl).mono ?_
  rintro e w' ⟨rfl, hb⟩
  refine ⟨?_, hb⟩
  rw [show (⟨l.toArray⟩ : ByteArray).data.toList = l from rfl, h]
  rfl
theorem isLabel_eq {l : Bs} {b : Bool} (h : isLabelB l = b) (w : World) (hs : l.length < 4294967281) :
    Calls Tryd.prog 49 #[.string ⟨l.toArray⟩] w fun e w' => e = .returned (.bool b) ∧ w = w' := by
  refine (isLabel_any ⟨l.toArray⟩ w (by rw [mk_size]; exact hs)).mono ?_
  rintro e w' ⟨rfl, hw⟩
  refine ⟨?_, hw⟩
  rw [show (⟨l.toArray⟩ : ByteArray).data.toList = l from rfl, h]
set_option maxRecDepth 100000 in
set_option maxHeartbeats 8000000 in
theorem all_any (g : Nat) (T : Bs) (w : World) (hE : Env w) (hg8 : 8 ≤ g) (hS : St w g ⟨T.toArray⟩ 0 [] []) (hs : T.length < 4294967281) :
    Calls Tryd.prog 40 #[.pointer (some ⟨g, 0, none⟩)] w (AllPost g (readL T) w) := by
  have HE := Lib.hid hE
  have HG8 := Lib.hid hg8
  have HS := Lib.hid hS
  have hG : g < w.heap.size := by obtain ⟨_, _, h, _⟩ := hS; exact h.lt
  have HG := Lib.hid hG
  clear hE hg8 hS hG
  go_enter Tryd.func40, Tryd.ntmps40
  go_wp2
  go_loopw [] (fun wr => ∃ (t : Bs) (n : Int) (labs : List (Bs × Int)) (lines : List Ln), Hid (St wr g ⟨t.toArray⟩ n labs lines) ∧ Hid (Below g w wr) ∧ Hid (p1 T 0 ([], []) = p1 t n (labs, lines)) ∧ Hid (0 ≤ n ∧ n + t.length ≤ T.length ∧ labs.length ≤ n ∧ lines.length ≤ 512)) (fun wr => txtLen wr g)
  case atStart => exact ⟨T, 0, [], [], HS, Below.refl _ _, rfl, Lib.hid ⟨by omega, by simp, by simp, by simp⟩⟩
  case round =>
    obtain ⟨t, n, labs, lines, HSr, HBr, HP, HN⟩ := hrel
    obtain ⟨v2, v3, hR, hO2, hO3⟩ := HSr.out
    obtain ⟨d2, cap2, rfl⟩ := own_slice hO2
    obtain ⟨d3, cap3, rfl⟩ := own_slice hO3
    have HR := Lib.hid hR
    have HO2 := Lib.hid hO2
    have HO3 := Lib.hid hO3
    have c0 := hR.c0
    clear hR hO2 hO3
    cases t with
    | nil =>
      have hrd : readL T = match pass2 labs lines with
          | .wrong m => .wrong m
          | .ok xs => .ok (labs, xs) := by
        have h2 : p1 T 0 ([], []) = .ok (n, labs, lines) := HP.out
        unfold p1 at h2
        unfold readL
        rw [h2]
        show (match pass2 labs lines with | .wrong n => Res.wrong n | .ok xs => Res.ok (labs, xs)) = _
        cases pass2 labs lines <;> rfl
      have HRD := Lib.hid hrd
      clear hrd
      have c3 := HR.out.c3
      go_wp2
      go_loopw [76] (fun i w2 => ∃ (k : Nat) (n' : Int) (done rest : List Ln), i = .int .i64 k ∧ k = done.length ∧ done.length + rest.length = lines.length ∧ Hid (RB w2 g ⟨#[]⟩ n' (.slice d2 labs.length cap2) (.slice d3 lines.length cap3)) ∧ Hid (w2.ownsRow (g + 1) 106 2 (.slice d2 labs.length cap2) labs.length (labCells labs)) ∧ Hid (w2.ownsRow (g + 1) 80 6 (.slice d3 lines.length cap3) lines.length (linCells (done ++ rest))) ∧ Hid (Below g w w2) ∧ Hid (pass2 labs lines = prep done (pass2 labs rest))) (fun i _ => lines.length - (intOf i).toNat)
      case atStart => exact ⟨0, n, [], lines, rfl, rfl, by simp, HR, HO2, HO3, HBr, by cases pass2 labs lines <;> rfl⟩
      case round =>
        obtain ⟨k, n', done, rest, rfl, hk, hdl, HR2, HO22, HO32, HB2, HP2⟩ := hrel
        rcases rest with _ | ⟨l, rest⟩
        · have hkl : k = lines.length := by rw [hk]; simpa using hdl
          go_wp2
          go_end0
          have hp : pass2 labs lines = .ok done := by rw [HP2.out]; simp [pass2, prep]
          rw [HRD.out, hp]
          refine ⟨HB2.out, rfl, _, n', _, _, HR2.out, HO22.out, ?_⟩
          have h3 := HO32.out
          rw [List.append_nil] at h3
          have : done.length = lines.length := by simpa using hdl
          rw [this]
          exact h3
        · subst hk
          have hkl : done.length < lines.length := by simp at hdl; omega
          have hdn : done.length < 512 := by have := HN.out; omega
          have e1 := HR2.out.c3
          have e2 := HR2.out.c1
          have e3 := HR2.out.fz 1
          obtain ⟨gr, cap, cur, hv, hbg, hgr, hcl⟩ := own_some HO32.out (by omega)
          injection hv with hd hn hc
          subst hd hc
          have HGR := Lib.hid hgr
          have HCL := Lib.hid hcl
          clear hgr hcl
          have x4 : wr.cell? ⟨gr, done.length * 6 + 4, none⟩ = some (.string ⟨l.lab.toArray⟩) := lin_cell HO32.out 4 _ rfl
          have x5 : wr.cell? ⟨gr, done.length * 6 + 5, none⟩ = some (.int .i64 l.n) := lin_cell HO32.out 5 _ rfl
          by_cases hl0 : l.lab = []
          · have x4' : wr.cell? ⟨gr, done.length * 6 + 4, none⟩ = some (.string ⟨#[]⟩) := by rw [x4, hl0]
            clear x4
            have hlg : gr ≠ g := by omega
            go_wp2_with fail
            have hr4 : RB (wr.setCell ⟨g, 1, none⟩ (.int .i64 l.n)) g ⟨#[]⟩ l.n (.slice d2 labs.length cap2) (.slice (some ⟨gr, 0, none⟩) lines.length cap3) := HR2.out.s1 _
            have h24 := ownsRow_setCell_below HO22.out (a := ⟨g, 1, none⟩) (Nat.lt_succ_self g) (.int .i64 l.n)
            have h34 := ownsRow_setCell_below HO32.out (a := ⟨g, 1, none⟩) (Nat.lt_succ_self g) (.int .i64 l.n)
            have hb4 : Below g w (wr.setCell ⟨g, 1, none⟩ (.int .i64 l.n)) := HB2.out.setCell (Nat.le_refl _) _
            generalize wr.setCell ⟨g, 1, none⟩ (.int .i64 l.n) = w4 at hr4 h24 h34 hb4 ⊢
            have HR4 : Hid (RB w4 g ⟨#[]⟩ l.n (.slice d2 labs.length cap2) (.slice (some ⟨gr, 0, none⟩) lines.length cap3)) := Lib.hid hr4
            have x0 : w4.drew.cell? ⟨gr, done.length * 6, none⟩ = some (.int .i64 (l).i.1) := lin_cell h34 0 _ rfl
            have x1 : w4.drew.cell? ⟨gr, done.length * 6 + 1, none⟩ = some (.int .i64 (l).i.2.1) := lin_cell h34 1 _ rfl
            have x2 : w4.drew.cell? ⟨gr, done.length * 6 + 2, none⟩ = some (.int .i64 (l).i.2.2.1) := lin_cell h34 2 _ rfl
            have x3 : w4.drew.cell? ⟨gr, done.length * 6 + 3, none⟩ = some (.int .i64 (l).i.2.2.2) := lin_cell h34 3 _ rfl
            have H24 := Lib.hid h24
            have H34 := Lib.hid h34
            have HB4 := Lib.hid hb4
            clear hr4 h24 h34 hb4
            cases hok : insOk (l).i with
            | true =>
              refine wp_region_any (by kernel_rfl) ?_
              change wpAny _ _ _ _ _ _ _ (World.drew _)
              refine wpAny_take (i := 0) (v := ?v0b1) rfl (by kernel_rfl) (by kernel_rfl) (by kernel_rfl) (fun _ _ _ h => h) (Or.inl ⟨by kernel_rfl, ?h0b1⟩) ?_
              case h0b1 => (intro w; go_simp; try with_reducible rfl)
              refine wpAny_take (i := 1) (v := ?v1b1) rfl (by kernel_rfl) (by kernel_rfl) (by kernel_rfl) (fun _ _ _ h => h) (Or.inl ⟨by kernel_rfl, ?h1b1⟩) ?_
              case h1b1 => (intro w; go_simp; try with_reducible rfl)
              refine wpAny_take (i := 2) (v := ?v2b1) rfl (by kernel_rfl) (by kernel_rfl) (by kernel_rfl) (fun _ _ _ h => h) (Or.inl ⟨by kernel_rfl, ?h2b1⟩) ?_
              case h2b1 => (intro w; go_simp; try with_reducible rfl)
              refine wpAny_take (i := 3) (v := ?v3b1) rfl (by kernel_rfl) (by kernel_rfl) (by kernel_rfl) (fun _ _ _ h => h) (Or.inl ⟨by kernel_rfl, ?h3b1⟩) ?_
              case h3b1 => (intro w; go_simp; try with_reducible rfl)
              refine wpAny_take (i := 4) (v := ?v4b1) rfl (by kernel_rfl) (by kernel_rfl) (by kernel_rfl) (fun _ _ _ h => h) (Or.inl ⟨by kernel_rfl, ?h4b1⟩) ?_
              case h4b1 => (intro w; go_simp; try with_reducible rfl)
              refine wpAny_take (i := 5) (v := ?v5b1) rfl (by kernel_rfl) (by kernel_rfl) (by kernel_rfl) (fun _ _ _ h => h) (Or.inl ⟨by kernel_rfl, ?h5b1⟩) ?_
              case h5b1 => (intro w; go_simp; try with_reducible rfl)
              refine wpAny_ready (rs := [6]) (by kernel_rfl) (by simp) ?_
              refine AllReady.cons rfl (fun K hK => ?_) AllReady.nil
              go_simp
              refine hK _ _ ?_
              clear hK K
              refine wpAny_ready (rs := [7]) (by kernel_rfl) (by simp) ?_
              refine AllReady.cons rfl (fun K hK => ?_) AllReady.nil
              go_simp
              refine (check_ok hok w4.drew).mono ?_
              rintro e w5 ⟨rfl, hb⟩
              have HB5 := Lib.hid hb
              clear hb
              refine hK _ _ ?_
              clear hK K
              refine wpAny_take (i := 8) (v := ?v8b1) rfl (by kernel_rfl) (by kernel_rfl) (by kernel_rfl) (fun _ _ _ h => h) (Or.inl ⟨by kernel_rfl, ?h8b1⟩) ?_
              case h8b1 => (intro w; go_simp; try with_reducible rfl)
              refine wpAny_ready (rs := [9]) (by kernel_rfl) (by simp) ?_
              refine AllReady.cons rfl (fun K hK => ?_) AllReady.nil
              go_simp
              refine (must_yes g w5).mono ?_
              rintro e w' ⟨rfl, rfl⟩
              refine hK _ _ ?_
              clear hK K
              refine wpAny_done (by kernel_rfl) ?_ _
              go_wp2_with fail
              go_roundw
              case rel => exact ⟨done.length + 1, l.n, done ++ [l], rest, by go_num, by simp, by simp at hdl ⊢; omega, Lib.hid (HR4.out.below HB5.out.undrew), Lib.hid (own_below H24.out HB5.out.undrew), Lib.hid (by
                have := own_below H34.out HB5.out.undrew
                rw [List.append_assoc]
                exact this), Lib.hid (HB4.out.trans (HB5.out.undrew.mono (Nat.le_of_lt HR4.out.lt))), Lib.hid (by rw [HP2.out]; exact prep_go (by simp [fixLine, hl0, hok]))⟩
              case measure => simp [intOf]; omega
            | false =>
              refine wp_region_any (by kernel_rfl) ?_
              change wpAny _ _ _ _ _ _ _ (World.drew _)
              refine wpAny_take (i := 0) (v := ?v0b2) rfl (by kernel_rfl) (by kernel_rfl) (by kernel_rfl) (fun _ _ _ h => h) (Or.inl ⟨by kernel_rfl, ?h0b2⟩) ?_
              case h0b2 => (intro w; go_simp; try with_reducible rfl)
              refine wpAny_take (i := 1) (v := ?v1b2) rfl (by kernel_rfl) (by kernel_rfl) (by kernel_rfl) (fun _ _ _ h => h) (Or.inl ⟨by kernel_rfl, ?h1b2⟩) ?_
              case h1b2 => (intro w; go_simp; try with_reducible rfl)
              refine wpAny_take (i := 2) (v := ?v2b2) rfl (by kernel_rfl) (by kernel_rfl) (by kernel_rfl) (fun _ _ _ h => h) (Or.inl ⟨by kernel_rfl, ?h2b2⟩) ?_
              case h2b2 => (intro w; go_simp; try with_reducible rfl)
              refine wpAny_take (i := 3) (v := ?v3b2) rfl (by kernel_rfl) (by kernel_rfl) (by kernel_rfl) (fun _ _ _ h => h) (Or.inl ⟨by kernel_rfl, ?h3b2⟩) ?_
              case h3b2 => (intro w; go_simp; try with_reducible rfl)
              refine wpAny_take (i := 4) (v := ?v4b2) rfl (by kernel_rfl) (by kernel_rfl) (by kernel_rfl) (fun _ _ _ h => h) (Or.inl ⟨by kernel_rfl, ?h4b2⟩) ?_
              case h4b2 => (intro w; go_simp; try with_reducible rfl)
              refine wpAny_take (i := 5) (v := ?v5b2) rfl (by kernel_rfl) (by kernel_rfl) (by kernel_rfl) (fun _ _ _ h => h) (Or.inl ⟨by kernel_rfl, ?h5b2⟩) ?_
              case h5b2 => (intro w; go_simp; try with_reducible rfl)
              refine wpAny_ready (rs := [6]) (by kernel_rfl) (by simp) ?_
              refine AllReady.cons rfl (fun K hK => ?_) AllReady.nil
              go_simp
              refine hK _ _ ?_
              clear hK K
              refine wpAny_ready (rs := [7]) (by kernel_rfl) (by simp) ?_
              refine AllReady.cons rfl (fun K hK => ?_) AllReady.nil
              go_simp
              refine (check_bad hok w4.drew).mono ?_
              rintro e w5 ⟨rfl, hb⟩
              have HB5 := Lib.hid hb
              clear hb
              refine hK _ _ ?_
              clear hK K
              refine wpAny_take (i := 8) (v := ?v8b2) rfl (by kernel_rfl) (by kernel_rfl) (by kernel_rfl) (fun _ _ _ h => h) (Or.inl ⟨by kernel_rfl, ?h8b2⟩) ?_
              case h8b2 => (intro w; go_simp; try with_reducible rfl)
              refine wpAny_ready (rs := [9]) (by kernel_rfl) (by simp) ?_
              refine AllReady.cons rfl (fun K hK => ?_) AllReady.nil
              go_simp
              refine (must_no g l.n w5 (HR4.out.below HB5.out.undrew).c1).mono ?_
              rintro e w' ⟨rfl, rfl⟩
              dsimp only
              refine bodyPost_panic (P := Tryd.prog) (fn := Tryd.f40) ?_ ?_
              · rfl
              · have hp : pass2 labs lines = .wrong l.n := by rw [HP2.out]; exact prep_bad (by simp [fixLine, hl0, hok])
                rw [HRD.out, hp]
                exact ⟨HB4.out.trans (HB5.out.undrew.mono (Nat.le_of_lt HR4.out.lt)), rfl⟩
          · have hl1 : (l.lab == []) = false := by simpa using hl0
            have hl2 : (l.lab != []) = true := by simpa using hl0
            have hlg : gr ≠ g := by omega
            have HLG := Lib.hid hlg
            cases hf : findL labs l.lab with
            | none =>
              go_wp2_with (first
                | (go_at_call 47; refine (find_no hf (HR2.out.s1 _) (ownsRow_setCell_below HO22.out (a := ⟨g, 1, none⟩) (Nat.lt_succ_self g) (.int .i64 l.n)) (by have := HN.out; omega)).mono ?_; rintro e w5 ⟨rfl, hb⟩; have HB5 := Lib.hid hb; clear hb)
                | (go_at_call 48; refine (must_no g l.n _ ((HR2.out.s1 _).below HB5.out).c1).mono ?_; rintro e w' ⟨rfl, rfl⟩))
              refine bodyPost_panic (P := Tryd.prog) (fn := Tryd.f40) rfl ?_
              have hp : pass2 labs lines = .wrong l.n := by rw [HP2.out]; exact prep_bad (by simp [fixLine, hl0, hf])
              rw [HRD.out, hp]
              exact ⟨(HB2.out.setCell (Nat.le_refl _) _).trans (HB5.out.mono (by have := HR2.out.lt; simp; omega)), rfl⟩
            | some a =>
              go_wp2_with (first
                | (go_at_call 47; refine (find_hit hf (HR2.out.s1 _) (ownsRow_setCell_below HO22.out (a := ⟨g, 1, none⟩) (Nat.lt_succ_self g) (.int .i64 l.n)) (by have := HN.out; omega)).mono ?_; rintro e w5 ⟨rfl, hb⟩; have h5 := own_below (ownsRow_setCell_below HO32.out (a := ⟨g, 1, none⟩) (Nat.lt_succ_self g) (.int .i64 l.n)) hb; have y0 : w5.cell? ⟨gr, done.length * 6, none⟩ = some (.int .i64 l.i.1) := lin_cell h5 0 _ rfl; have y1 : w5.cell? ⟨gr, done.length * 6 + 1, none⟩ = some (.int .i64 l.i.2.1) := lin_cell h5 1 _ rfl; have y2 : w5.cell? ⟨gr, done.length * 6 + 2, none⟩ = some (.int .i64 l.i.2.2.1) := lin_cell h5 2 _ rfl; have y3 : w5.cell? ⟨gr, done.length * 6 + 3, none⟩ = some (.int .i64 l.i.2.2.2) := lin_cell h5 3 _ rfl; have H5 := Lib.hid h5; have HB5 := Lib.hid hb; clear hb h5)
                | (go_at_call 48; refine (must_yes _ _).mono ?_; rintro e w' ⟨rfl, rfl⟩)
                | (go_at_call 51; refine (aim_eq l.i a _).mono ?_; rintro e w6 ⟨rfl, hb⟩; have h6 := own_below H5.out hb; have z0 : w6.cell? ⟨gr, done.length * 6, none⟩ = some (.int .i64 l.i.1) := lin_cell h6 0 _ rfl; have z1 : w6.cell? ⟨gr, done.length * 6 + 1, none⟩ = some (.int .i64 l.i.2.1) := lin_cell h6 1 _ rfl; have z2 : w6.cell? ⟨gr, done.length * 6 + 2, none⟩ = some (.int .i64 l.i.2.2.1) := lin_cell h6 2 _ rfl; have z3 : w6.cell? ⟨gr, done.length * 6 + 3, none⟩ = some (.int .i64 l.i.2.2.2) := lin_cell h6 3 _ rfl; have f0 := lin_frozen h6; have H6 := Lib.hid h6; have HB6 := Lib.hid hb; clear hb h6))
              obtain ⟨l2, hl2⟩ : ∃ l2 : Ln, l2 = ⟨aimOf l.i a, l.lab, l.n⟩ := ⟨_, rfl⟩
              have hr4 : RB w6 g ⟨#[]⟩ l.n (.slice d2 labs.length cap2) (.slice (some ⟨gr, 0, none⟩) lines.length cap3) := ((HR2.out.s1 _).below HB5.out).below HB6.out
              have h24 := own_below (own_below (ownsRow_setCell_below HO22.out (a := ⟨g, 1, none⟩) (Nat.lt_succ_self g) (.int .i64 l.n)) HB5.out) HB6.out
              have hb4 : Below g w w6 := ((HB2.out.setCell (p := ⟨g, 1, none⟩) (Nat.le_refl _) _).trans (HB5.out.mono (by have := HR2.out.lt; simp; omega))).trans (HB6.out.mono (by have := HR2.out.lt; have := HB5.out.size; simp at this; omega))
              obtain ⟨h34, hr4, h24, hb4⟩ := own_set4 H6.out (aimOf l.i a) hr4 h24 hb4 (by omega)
              rw [← hl2] at h34
              have HL2 := Lib.hid hl2
              clear hl2
              generalize (((w6.setCell ⟨gr, done.length * 6, none⟩ (.int .i64 (aimOf l.i a).1)).setCell ⟨gr, done.length * 6 + 1, none⟩ (.int .i64 (aimOf l.i a).2.1)).setCell ⟨gr, done.length * 6 + 2, none⟩ (.int .i64 (aimOf l.i a).2.2.1)).setCell ⟨gr, done.length * 6 + 3, none⟩ (.int .i64 (aimOf l.i a).2.2.2) = w4 at hr4 h24 h34 hb4 ⊢
              have HR4 : Hid (RB w4 g ⟨#[]⟩ l.n (.slice d2 labs.length cap2) (.slice (some ⟨gr, 0, none⟩) lines.length cap3)) := Lib.hid hr4
              have x0 : w4.drew.cell? ⟨gr, done.length * 6, none⟩ = some (.int .i64 (l2).i.1) := lin_cell h34 0 _ rfl
              have x1 : w4.drew.cell? ⟨gr, done.length * 6 + 1, none⟩ = some (.int .i64 (l2).i.2.1) := lin_cell h34 1 _ rfl
              have x2 : w4.drew.cell? ⟨gr, done.length * 6 + 2, none⟩ = some (.int .i64 (l2).i.2.2.1) := lin_cell h34 2 _ rfl
              have x3 : w4.drew.cell? ⟨gr, done.length * 6 + 3, none⟩ = some (.int .i64 (l2).i.2.2.2) := lin_cell h34 3 _ rfl
              have H24 := Lib.hid h24
              have H34 := Lib.hid h34
              have HB4 := Lib.hid hb4
              clear hr4 h24 h34 hb4
              cases hok : insOk (l2).i with
              | true =>
                refine wp_region_any (by kernel_rfl) ?_
                change wpAny _ _ _ _ _ _ _ (World.drew _)
                refine wpAny_take (i := 0) (v := ?v0b3) rfl (by kernel_rfl) (by kernel_rfl) (by kernel_rfl) (fun _ _ _ h => h) (Or.inl ⟨by kernel_rfl, ?h0b3⟩) ?_
                case h0b3 => (intro w; go_simp; try with_reducible rfl)
                refine wpAny_take (i := 1) (v := ?v1b3) rfl (by kernel_rfl) (by kernel_rfl) (by kernel_rfl) (fun _ _ _ h => h) (Or.inl ⟨by kernel_rfl, ?h1b3⟩) ?_
                case h1b3 => (intro w; go_simp; try with_reducible rfl)
                refine wpAny_take (i := 2) (v := ?v2b3) rfl (by kernel_rfl) (by kernel_rfl) (by kernel_rfl) (fun _ _ _ h => h) (Or.inl ⟨by kernel_rfl, ?h2b3⟩) ?_
                case h2b3 => (intro w; go_simp; try with_reducible rfl)
                refine wpAny_take (i := 3) (v := ?v3b3) rfl (by kernel_rfl) (by kernel_rfl) (by kernel_rfl) (fun _ _ _ h => h) (Or.inl ⟨by kernel_rfl, ?h3b3⟩) ?_
                case h3b3 => (intro w; go_simp; try with_reducible rfl)
                refine wpAny_take (i := 4) (v := ?v4b3) rfl (by kernel_rfl) (by kernel_rfl) (by kernel_rfl) (fun _ _ _ h => h) (Or.inl ⟨by kernel_rfl, ?h4b3⟩) ?_
                case h4b3 => (intro w; go_simp; try with_reducible rfl)
                refine wpAny_take (i := 5) (v := ?v5b3) rfl (by kernel_rfl) (by kernel_rfl) (by kernel_rfl) (fun _ _ _ h => h) (Or.inl ⟨by kernel_rfl, ?h5b3⟩) ?_
                case h5b3 => (intro w; go_simp; try with_reducible rfl)
                refine wpAny_ready (rs := [6]) (by kernel_rfl) (by simp) ?_
                refine AllReady.cons rfl (fun K hK => ?_) AllReady.nil
                go_simp
                refine hK _ _ ?_
                clear hK K
                refine wpAny_ready (rs := [7]) (by kernel_rfl) (by simp) ?_
                refine AllReady.cons rfl (fun K hK => ?_) AllReady.nil
                go_simp
                refine (check_ok hok w4.drew).mono ?_
                rintro e w5 ⟨rfl, hb⟩
                have HB5 := Lib.hid hb
                clear hb
                refine hK _ _ ?_
                clear hK K
                refine wpAny_take (i := 8) (v := ?v8b3) rfl (by kernel_rfl) (by kernel_rfl) (by kernel_rfl) (fun _ _ _ h => h) (Or.inl ⟨by kernel_rfl, ?h8b3⟩) ?_
                case h8b3 => (intro w; go_simp; try with_reducible rfl)
                refine wpAny_ready (rs := [9]) (by kernel_rfl) (by simp) ?_
                refine AllReady.cons rfl (fun K hK => ?_) AllReady.nil
                go_simp
                refine (must_yes g w5).mono ?_
                rintro e w' ⟨rfl, rfl⟩
                refine hK _ _ ?_
                clear hK K
                refine wpAny_done (by kernel_rfl) ?_ _
                go_wp2_with fail
                go_roundw
                case rel => exact ⟨done.length + 1, l.n, done ++ [l2], rest, by go_num, by simp, by simp at hdl ⊢; omega, Lib.hid (HR4.out.below HB5.out.undrew), Lib.hid (own_below H24.out HB5.out.undrew), Lib.hid (by
                  have := own_below H34.out HB5.out.undrew
                  rw [List.append_assoc]
                  exact this), Lib.hid (HB4.out.trans (HB5.out.undrew.mono (Nat.le_of_lt HR4.out.lt))), Lib.hid (by rw [HP2.out]; exact prep_go (by have h := hok; rw [HL2.out] at h; simp [fixLine, hl0, hf, HL2.out]; exact h))⟩
                case measure => simp [intOf]; omega
              | false =>
                refine wp_region_any (by kernel_rfl) ?_
                change wpAny _ _ _ _ _ _ _ (World.drew _)
                refine wpAny_take (i := 0) (v := ?v0b4) rfl (by kernel_rfl) (by kernel_rfl) (by kernel_rfl) (fun _ _ _ h => h) (Or.inl ⟨by kernel_rfl, ?h0b4⟩) ?_
                case h0b4 => (intro w; go_simp; try with_reducible rfl)
                refine wpAny_take (i := 1) (v := ?v1b4) rfl (by kernel_rfl) (by kernel_rfl) (by kernel_rfl) (fun _ _ _ h => h) (Or.inl ⟨by kernel_rfl, ?h1b4⟩) ?_
                case h1b4 => (intro w; go_simp; try with_reducible rfl)
                refine wpAny_take (i := 2) (v := ?v2b4) rfl (by kernel_rfl) (by kernel_rfl) (by kernel_rfl) (fun _ _ _ h => h) (Or.inl ⟨by kernel_rfl, ?h2b4⟩) ?_
                case h2b4 => (intro w; go_simp; try with_reducible rfl)
                refine wpAny_take (i := 3) (v := ?v3b4) rfl (by kernel_rfl) (by kernel_rfl) (by kernel_rfl) (fun _ _ _ h => h) (Or.inl ⟨by kernel_rfl, ?h3b4⟩) ?_
                case h3b4 => (intro w; go_simp; try with_reducible rfl)
                refine wpAny_take (i := 4) (v := ?v4b4) rfl (by kernel_rfl) (by kernel_rfl) (by kernel_rfl) (fun _ _ _ h => h) (Or.inl ⟨by kernel_rfl, ?h4b4⟩) ?_
                case h4b4 => (intro w; go_simp; try with_reducible rfl)
                refine wpAny_take (i := 5) (v := ?v5b4) rfl (by kernel_rfl) (by kernel_rfl) (by kernel_rfl) (fun _ _ _ h => h) (Or.inl ⟨by kernel_rfl, ?h5b4⟩) ?_
                case h5b4 => (intro w; go_simp; try with_reducible rfl)
                refine wpAny_ready (rs := [6]) (by kernel_rfl) (by simp) ?_
                refine AllReady.cons rfl (fun K hK => ?_) AllReady.nil
                go_simp
                refine hK _ _ ?_
                clear hK K
                refine wpAny_ready (rs := [7]) (by kernel_rfl) (by simp) ?_
                refine AllReady.cons rfl (fun K hK => ?_) AllReady.nil
                go_simp
                refine (check_bad hok w4.drew).mono ?_
                rintro e w5 ⟨rfl, hb⟩
                have HB5 := Lib.hid hb
                clear hb
                refine hK _ _ ?_
                clear hK K
                refine wpAny_take (i := 8) (v := ?v8b4) rfl (by kernel_rfl) (by kernel_rfl) (by kernel_rfl) (fun _ _ _ h => h) (Or.inl ⟨by kernel_rfl, ?h8b4⟩) ?_
                case h8b4 => (intro w; go_simp; try with_reducible rfl)
                refine wpAny_ready (rs := [9]) (by kernel_rfl) (by simp) ?_
                refine AllReady.cons rfl (fun K hK => ?_) AllReady.nil
                go_simp
                refine (must_no g l.n w5 (HR4.out.below HB5.out.undrew).c1).mono ?_
                rintro e w' ⟨rfl, rfl⟩
                dsimp only
                refine bodyPost_panic (P := Tryd.prog) (fn := Tryd.f40) ?_ ?_
                · rfl
                · have hp : pass2 labs lines = .wrong l.n := by rw [HP2.out]; exact prep_bad (by have h := hok; rw [HL2.out] at h; simp [fixLine, hl0, hf]; exact h)
                  rw [HRD.out, hp]
                  exact ⟨HB4.out.trans (HB5.out.undrew.mono (Nat.le_of_lt HR4.out.lt)), rfl⟩
    | cons c r =>
      have hlen : (⟨(c :: r).toArray⟩ : ByteArray).size < 4294967281 := by rw [mk_size]; have := HN.out; omega
      have HEr := Lib.hid (Env.at_ HE.out (by have := HBr.out.size; omega) (fun k hk => HBr.out.block k (by have := HG8.out; omega)))
      cases hcut : cutC 10 (c :: r) with
      | none =>
        go_wp2_with (go_at_call 45; refine (next_no g _ n _ _ _ _ wr HEr.out HG8.out hlen HR.out HN.out.1 (by have := HN.out; omega) (cut_none hcut)).mono ?_; rintro e w1 ⟨rfl, hgr⟩; have HGr := Lib.hid hgr; clear hgr)
        refine bodyPost_panic rfl ?_
        have hrd : readL T = .wrong (n + 1) := by
          unfold readL
          have h2 : p1 T 0 ([], []) = .wrong (n + 1) := by rw [HP.out, p1_none hcut (by simp)]
          unfold p1 at h2
          rw [h2]
        rw [hrd]
        exact ⟨HBr.out.grown HGr.out (by have := HR.out.lt; omega) (fun k hk => by injection hk with hk; omega), rfl⟩
      | some p =>
        obtain ⟨x, y⟩ := p
        cases x with
        | nil =>
          go_wp2_with (first
            | (go_at_call 45; refine (next_yes g _ n _ _ _ _ wr HEr.out HG8.out hlen HR.out HN.out.1 (by have := HN.out; omega) (cut_some hcut)).mono ?_; rintro e w1 ⟨rfl, hr1, hgr⟩; have HR1 := Lib.hid hr1; have HGr := Lib.hid hgr; clear hgr hr1)
            | (go_at_call 46; refine (cutCol_no [] _ rfl).mono ?_; rintro e w' ⟨rfl, rfl⟩))
          go_roundw
          case rel => exact ⟨y, n + 1, labs, lines, Lib.hid (st_next HR1.out HGr.out HO2.out HO3.out), Lib.hid (below_g HBr.out HGr.out HR.out.lt), Lib.hid (by rw [HP.out]; exact p1_go hcut n _ _ rfl), Lib.hid (by have := HN.out; have := cutC_length hcut; omega)⟩
          case measure => rw [txtLen_eq HR1.out.c0, txtLen_eq HR.out.c0]; have := cutC_length hcut; omega
        | cons b l =>
          by_cases hb35 : b = 35
          · subst hb35
            go_wp2_with (first
              | (go_at_call 45; refine (next_yes g _ n _ _ _ _ wr HEr.out HG8.out hlen HR.out HN.out.1 (by have := HN.out; omega) (cut_some hcut)).mono ?_; rintro e w1 ⟨rfl, hr1, hgr⟩; have HR1 := Lib.hid hr1; have HGr := Lib.hid hgr; clear hgr hr1)
              | (go_at_call 46; refine (cutCol_no (35 :: l) _ rfl).mono ?_; rintro e w' ⟨rfl, rfl⟩))
            go_roundw
            case rel => exact ⟨y, n + 1, labs, lines, Lib.hid (st_next HR1.out HGr.out HO2.out HO3.out), Lib.hid (below_g HBr.out HGr.out HR.out.lt), Lib.hid (by rw [HP.out]; exact p1_go hcut n _ _ rfl), Lib.hid (by have := HN.out; have := cutC_length hcut; omega)⟩
            case measure => rw [txtLen_eq HR1.out.c0, txtLen_eq HR.out.c0]; have := cutC_length hcut; omega
          · by_cases hb58 : b = 58
            · subst hb58
              have hll : Hid (l.length < 4294967281) := Lib.hid (by
                have h1 := HN.out
                have h2 := cutC_length hcut
                simp only [List.length_cons] at h1 h2
                omega)
              cases hi : isLabelB l with
              | false =>
                cases hf : findL labs l with
                | none =>
                  go_wp2_with (first
                    | (go_at_call 45; refine (next_yes g _ n _ _ _ _ wr HEr.out HG8.out hlen HR.out HN.out.1 (by have := HN.out; omega) (cut_some hcut)).mono ?_; rintro e w1 ⟨rfl, hr1, hgr⟩; have HR1 := Lib.hid hr1; have HGr := Lib.hid hgr; clear hgr hr1)
                    | (go_at_call 46; refine (cutCol_yes l _).mono ?_; rintro e w' ⟨rfl, rfl⟩)
                    | (go_at_call 47; refine (find_no hf HR1.out (HO2.out.kept HGr.out (.inr (ownB_ge HO2.out g (Nat.lt_succ_self g)))) (by have := HN.out; omega)).mono ?_; rintro e w2 ⟨rfl, hb⟩; have HB2 := Lib.hid hb; clear hb))
                  refine wp_region_any (by kernel_rfl) ?_
                  change wpAny _ _ _ _ _ _ _ (World.drew _)
                  refine wpAny_take (i := 0) (v := ?v0b5) rfl (by kernel_rfl) (by kernel_rfl) (by kernel_rfl) (fun _ _ _ h => h) (Or.inl ⟨by kernel_rfl, ?h0b5⟩) ?_
                  case h0b5 => (intro w; go_simp; try with_reducible rfl)
                  refine wpAny_take (i := 1) (v := ?v1b5) rfl (by kernel_rfl) (by kernel_rfl) (by kernel_rfl) (fun _ _ _ h => h) (Or.inl ⟨by kernel_rfl, ?h1b5⟩) ?_
                  case h1b5 => (intro w; go_simp; try with_reducible rfl)
                  refine wpAny_take (i := 2) (v := ?v2b5) rfl (by kernel_rfl) (by kernel_rfl) (by kernel_rfl) (fun _ _ _ h => h) (Or.inl ⟨by kernel_rfl, ?h2b5⟩) ?_
                  case h2b5 => (intro w; go_simp; try with_reducible rfl)
                  refine wpAny_take (i := 3) (v := ?v3b5) rfl (by kernel_rfl) (by kernel_rfl) (by kernel_rfl) (fun _ _ _ h => h) (Or.inl ⟨by kernel_rfl, ?h3b5⟩) ?_
                  case h3b5 => (intro w; go_simp; try with_reducible rfl)
                  refine wpAny_ready (rs := [4]) (by kernel_rfl) (by simp) ?_
                  refine AllReady.cons rfl (fun K hK => ?_) AllReady.nil
                  go_simp
                  refine (isLabel_eq hi w2.drew hll.out).mono ?_
                  rintro e w' ⟨rfl, rfl⟩
                  refine hK _ _ ?_
                  clear hK K
                  refine wpAny_take (i := 5) (v := ?v5b5) rfl (by kernel_rfl) (by kernel_rfl) (by kernel_rfl) (fun _ _ _ h => h) (Or.inl ⟨by kernel_rfl, ?h5b5⟩) ?_
                  case h5b5 => (intro w; go_simp; try with_reducible rfl)
                  refine wpAny_take (i := 6) (v := undef) rfl (by kernel_rfl) (by kernel_rfl) (by kernel_rfl) (fun _ _ _ h => h) (Or.inr ⟨by kernel_rfl, rfl⟩) ?_
                  refine wpAny_take (i := 7) (v := undef) rfl (by kernel_rfl) (by kernel_rfl) (by kernel_rfl) (fun _ _ _ h => h) (Or.inr ⟨by kernel_rfl, rfl⟩) ?_
                  refine wpAny_take (i := 8) (v := ?v8b5) rfl (by kernel_rfl) (by kernel_rfl) (by kernel_rfl) (fun _ _ _ h => h) (Or.inl ⟨by kernel_rfl, ?h8b5⟩) ?_
                  case h8b5 => (intro w; go_simp; try with_reducible rfl)
                  refine wpAny_ready (rs := [9]) (by kernel_rfl) (by simp) ?_
                  refine AllReady.cons rfl (fun K hK => ?_) AllReady.nil
                  go_simp
                  refine (must_no g (n + 1) w2.drew (HR1.out.below HB2.out).c1).mono ?_
                  rintro e w' ⟨rfl, rfl⟩
                  dsimp only
                  refine bodyPost_panic (P := Tryd.prog) (fn := Tryd.f40) ?_ ?_
                  · rfl
                  · have hrd : readL T = .wrong (n + 1) := by
                      unfold readL
                      have h2 : p1 T 0 ([], []) = .wrong (n + 1) := by
                        rw [HP.out]
                        refine p1_bad hcut n _ ?_
                        simp [oneLine, hi, hf]
                      unfold p1 at h2
                      rw [h2]
                    rw [hrd]
                    exact ⟨(below_g HBr.out HGr.out HR.out.lt).trans (HB2.out.drew.mono (Nat.le_of_lt HR1.out.lt)), rfl⟩
                | some a =>
                  go_wp2_with (first
                    | (go_at_call 45; refine (next_yes g _ n _ _ _ _ wr HEr.out HG8.out hlen HR.out HN.out.1 (by have := HN.out; omega) (cut_some hcut)).mono ?_; rintro e w1 ⟨rfl, hr1, hgr⟩; have HR1 := Lib.hid hr1; have HGr := Lib.hid hgr; clear hgr hr1)
                    | (go_at_call 46; refine (cutCol_yes l _).mono ?_; rintro e w' ⟨rfl, rfl⟩)
                    | (go_at_call 47; refine (find_hit hf HR1.out (HO2.out.kept HGr.out (.inr (ownB_ge HO2.out g (Nat.lt_succ_self g)))) (by have := HN.out; omega)).mono ?_; rintro e w2 ⟨rfl, hb⟩; have HB2 := Lib.hid hb; clear hb))
                  refine wp_region_any (by kernel_rfl) ?_
                  change wpAny _ _ _ _ _ _ _ (World.drew _)
                  refine wpAny_take (i := 0) (v := ?v0b6) rfl (by kernel_rfl) (by kernel_rfl) (by kernel_rfl) (fun _ _ _ h => h) (Or.inl ⟨by kernel_rfl, ?h0b6⟩) ?_
                  case h0b6 => (intro w; go_simp; try with_reducible rfl)
                  refine wpAny_take (i := 1) (v := ?v1b6) rfl (by kernel_rfl) (by kernel_rfl) (by kernel_rfl) (fun _ _ _ h => h) (Or.inl ⟨by kernel_rfl, ?h1b6⟩) ?_
                  case h1b6 => (intro w; go_simp; try with_reducible rfl)
                  refine wpAny_take (i := 2) (v := ?v2b6) rfl (by kernel_rfl) (by kernel_rfl) (by kernel_rfl) (fun _ _ _ h => h) (Or.inl ⟨by kernel_rfl, ?h2b6⟩) ?_
                  case h2b6 => (intro w; go_simp; try with_reducible rfl)
                  refine wpAny_take (i := 3) (v := ?v3b6) rfl (by kernel_rfl) (by kernel_rfl) (by kernel_rfl) (fun _ _ _ h => h) (Or.inl ⟨by kernel_rfl, ?h3b6⟩) ?_
                  case h3b6 => (intro w; go_simp; try with_reducible rfl)
                  refine wpAny_ready (rs := [4]) (by kernel_rfl) (by simp) ?_
                  refine AllReady.cons rfl (fun K hK => ?_) AllReady.nil
                  go_simp
                  refine (isLabel_eq hi w2.drew hll.out).mono ?_
                  rintro e w' ⟨rfl, rfl⟩
                  refine hK _ _ ?_
                  clear hK K
                  refine wpAny_take (i := 5) (v := ?v5b6) rfl (by kernel_rfl) (by kernel_rfl) (by kernel_rfl) (fun _ _ _ h => h) (Or.inl ⟨by kernel_rfl, ?h5b6⟩) ?_
                  case h5b6 => (intro w; go_simp; try with_reducible rfl)
                  refine wpAny_take (i := 6) (v := undef) rfl (by kernel_rfl) (by kernel_rfl) (by kernel_rfl) (fun _ _ _ h => h) (Or.inr ⟨by kernel_rfl, rfl⟩) ?_
                  refine wpAny_take (i := 7) (v := undef) rfl (by kernel_rfl) (by kernel_rfl) (by kernel_rfl) (fun _ _ _ h => h) (Or.inr ⟨by kernel_rfl, rfl⟩) ?_
                  refine wpAny_take (i := 8) (v := ?v8b6) rfl (by kernel_rfl) (by kernel_rfl) (by kernel_rfl) (fun _ _ _ h => h) (Or.inl ⟨by kernel_rfl, ?h8b6⟩) ?_
                  case h8b6 => (intro w; go_simp; try with_reducible rfl)
                  refine wpAny_ready (rs := [9]) (by kernel_rfl) (by simp) ?_
                  refine AllReady.cons rfl (fun K hK => ?_) AllReady.nil
                  go_simp
                  refine (must_no g (n + 1) w2.drew (HR1.out.below HB2.out).c1).mono ?_
                  rintro e w' ⟨rfl, rfl⟩
                  dsimp only
                  refine bodyPost_panic (P := Tryd.prog) (fn := Tryd.f40) ?_ ?_
                  · rfl
                  · have hrd : readL T = .wrong (n + 1) := by
                      unfold readL
                      have h2 : p1 T 0 ([], []) = .wrong (n + 1) := by
                        rw [HP.out]
                        refine p1_bad hcut n _ ?_
                        simp [oneLine, hi, hf]
                      unfold p1 at h2
                      rw [h2]
                    rw [hrd]
                    exact ⟨(below_g HBr.out HGr.out HR.out.lt).trans (HB2.out.drew.mono (Nat.le_of_lt HR1.out.lt)), rfl⟩
              | true =>
                cases hf : findL labs l with
                | some a =>
                  go_wp2_with (first
                    | (go_at_call 45; refine (next_yes g _ n _ _ _ _ wr HEr.out HG8.out hlen HR.out HN.out.1 (by have := HN.out; omega) (cut_some hcut)).mono ?_; rintro e w1 ⟨rfl, hr1, hgr⟩; have HR1 := Lib.hid hr1; have HGr := Lib.hid hgr; clear hgr hr1)
                    | (go_at_call 46; refine (cutCol_yes l _).mono ?_; rintro e w' ⟨rfl, rfl⟩)
                    | (go_at_call 47; refine (find_hit hf HR1.out (HO2.out.kept HGr.out (.inr (ownB_ge HO2.out g (Nat.lt_succ_self g)))) (by have := HN.out; omega)).mono ?_; rintro e w2 ⟨rfl, hb⟩; have HB2 := Lib.hid hb; clear hb))
                  refine wp_region_any (by kernel_rfl) ?_
                  change wpAny _ _ _ _ _ _ _ (World.drew _)
                  refine wpAny_take (i := 0) (v := ?v0b7) rfl (by kernel_rfl) (by kernel_rfl) (by kernel_rfl) (fun _ _ _ h => h) (Or.inl ⟨by kernel_rfl, ?h0b7⟩) ?_
                  case h0b7 => (intro w; go_simp; try with_reducible rfl)
                  refine wpAny_take (i := 1) (v := ?v1b7) rfl (by kernel_rfl) (by kernel_rfl) (by kernel_rfl) (fun _ _ _ h => h) (Or.inl ⟨by kernel_rfl, ?h1b7⟩) ?_
                  case h1b7 => (intro w; go_simp; try with_reducible rfl)
                  refine wpAny_take (i := 2) (v := ?v2b7) rfl (by kernel_rfl) (by kernel_rfl) (by kernel_rfl) (fun _ _ _ h => h) (Or.inl ⟨by kernel_rfl, ?h2b7⟩) ?_
                  case h2b7 => (intro w; go_simp; try with_reducible rfl)
                  refine wpAny_take (i := 3) (v := ?v3b7) rfl (by kernel_rfl) (by kernel_rfl) (by kernel_rfl) (fun _ _ _ h => h) (Or.inl ⟨by kernel_rfl, ?h3b7⟩) ?_
                  case h3b7 => (intro w; go_simp; try with_reducible rfl)
                  refine wpAny_ready (rs := [4]) (by kernel_rfl) (by simp) ?_
                  refine AllReady.cons rfl (fun K hK => ?_) AllReady.nil
                  go_simp
                  refine (isLabel_eq hi w2.drew hll.out).mono ?_
                  rintro e w' ⟨rfl, rfl⟩
                  refine hK _ _ ?_
                  clear hK K
                  refine wpAny_take (i := 5) (v := ?v5b7) rfl (by kernel_rfl) (by kernel_rfl) (by kernel_rfl) (fun _ _ _ h => h) (Or.inl ⟨by kernel_rfl, ?h5b7⟩) ?_
                  case h5b7 => (intro w; go_simp; try with_reducible rfl)
                  refine wpAny_take (i := 6) (v := ?v6b7) rfl (by kernel_rfl) (by kernel_rfl) (by kernel_rfl) (fun _ _ _ h => h) (Or.inl ⟨by kernel_rfl, ?h6b7⟩) ?_
                  case h6b7 => (intro w; go_simp; try with_reducible rfl)
                  refine wpAny_take (i := 7) (v := ?v7b7) rfl (by kernel_rfl) (by kernel_rfl) (by kernel_rfl) (fun _ _ _ h => h) (Or.inl ⟨by kernel_rfl, ?h7b7⟩) ?_
                  case h7b7 => (intro w; go_simp; try with_reducible rfl)
                  refine wpAny_take (i := 8) (v := ?v8b7) rfl (by kernel_rfl) (by kernel_rfl) (by kernel_rfl) (fun _ _ _ h => h) (Or.inl ⟨by kernel_rfl, ?h8b7⟩) ?_
                  case h8b7 => (intro w; go_simp; try with_reducible rfl)
                  refine wpAny_ready (rs := [9]) (by kernel_rfl) (by simp) ?_
                  refine AllReady.cons rfl (fun K hK => ?_) AllReady.nil
                  go_simp
                  refine (must_no g (n + 1) w2.drew (HR1.out.below HB2.out).c1).mono ?_
                  rintro e w' ⟨rfl, rfl⟩
                  dsimp only
                  refine bodyPost_panic (P := Tryd.prog) (fn := Tryd.f40) ?_ ?_
                  · rfl
                  · have hrd : readL T = .wrong (n + 1) := by
                      unfold readL
                      have h2 : p1 T 0 ([], []) = .wrong (n + 1) := by
                        rw [HP.out]
                        refine p1_bad hcut n _ ?_
                        simp [oneLine, hi, hf]
                      unfold p1 at h2
                      rw [h2]
                    rw [hrd]
                    exact ⟨(below_g HBr.out HGr.out HR.out.lt).trans (HB2.out.drew.mono (Nat.le_of_lt HR1.out.lt)), rfl⟩
                | none =>
                  go_wp2_with (first
                    | (go_at_call 45; refine (next_yes g _ n _ _ _ _ wr HEr.out HG8.out hlen HR.out HN.out.1 (by have := HN.out; omega) (cut_some hcut)).mono ?_; rintro e w1 ⟨rfl, hr1, hgr⟩; have HR1 := Lib.hid hr1; have HGr := Lib.hid hgr; clear hgr hr1)
                    | (go_at_call 46; refine (cutCol_yes l _).mono ?_; rintro e w' ⟨rfl, rfl⟩)
                    | (go_at_call 47; refine (find_no hf HR1.out (HO2.out.kept HGr.out (.inr (ownB_ge HO2.out g (Nat.lt_succ_self g)))) (by have := HN.out; omega)).mono ?_; rintro e w2 ⟨rfl, hb⟩; have HB2 := Lib.hid hb; clear hb))
                  refine wp_region_any (by kernel_rfl) ?_
                  change wpAny _ _ _ _ _ _ _ (World.drew _)
                  refine wpAny_take (i := 0) (v := ?v0b8) rfl (by kernel_rfl) (by kernel_rfl) (by kernel_rfl) (fun _ _ _ h => h) (Or.inl ⟨by kernel_rfl, ?h0b8⟩) ?_
                  case h0b8 => (intro w; go_simp; try with_reducible rfl)
                  refine wpAny_take (i := 1) (v := ?v1b8) rfl (by kernel_rfl) (by kernel_rfl) (by kernel_rfl) (fun _ _ _ h => h) (Or.inl ⟨by kernel_rfl, ?h1b8⟩) ?_
                  case h1b8 => (intro w; go_simp; try with_reducible rfl)
                  refine wpAny_take (i := 2) (v := ?v2b8) rfl (by kernel_rfl) (by kernel_rfl) (by kernel_rfl) (fun _ _ _ h => h) (Or.inl ⟨by kernel_rfl, ?h2b8⟩) ?_
                  case h2b8 => (intro w; go_simp; try with_reducible rfl)
                  refine wpAny_take (i := 3) (v := ?v3b8) rfl (by kernel_rfl) (by kernel_rfl) (by kernel_rfl) (fun _ _ _ h => h) (Or.inl ⟨by kernel_rfl, ?h3b8⟩) ?_
                  case h3b8 => (intro w; go_simp; try with_reducible rfl)
                  refine wpAny_ready (rs := [4]) (by kernel_rfl) (by simp) ?_
                  refine AllReady.cons rfl (fun K hK => ?_) AllReady.nil
                  go_simp
                  refine (isLabel_eq hi w2.drew hll.out).mono ?_
                  rintro e w' ⟨rfl, rfl⟩
                  refine hK _ _ ?_
                  clear hK K
                  refine wpAny_take (i := 5) (v := ?v5b8) rfl (by kernel_rfl) (by kernel_rfl) (by kernel_rfl) (fun _ _ _ h => h) (Or.inl ⟨by kernel_rfl, ?h5b8⟩) ?_
                  case h5b8 => (intro w; go_simp; try with_reducible rfl)
                  refine wpAny_take (i := 6) (v := ?v6b8) rfl (by kernel_rfl) (by kernel_rfl) (by kernel_rfl) (fun _ _ _ h => h) (Or.inl ⟨by kernel_rfl, ?h6b8⟩) ?_
                  case h6b8 => (intro w; go_simp; try with_reducible rfl)
                  refine wpAny_take (i := 7) (v := ?v7b8) rfl (by kernel_rfl) (by kernel_rfl) (by kernel_rfl) (fun _ _ _ h => h) (Or.inl ⟨by kernel_rfl, ?h7b8⟩) ?_
                  case h7b8 => (intro w; go_simp; try with_reducible rfl)
                  refine wpAny_take (i := 8) (v := ?v8b8) rfl (by kernel_rfl) (by kernel_rfl) (by kernel_rfl) (fun _ _ _ h => h) (Or.inl ⟨by kernel_rfl, ?h8b8⟩) ?_
                  case h8b8 => (intro w; go_simp; try with_reducible rfl)
                  refine wpAny_ready (rs := [9]) (by kernel_rfl) (by simp) ?_
                  refine AllReady.cons rfl (fun K hK => ?_) AllReady.nil
                  go_simp
                  refine (must_yes _ _).mono ?_
                  rintro e w' ⟨rfl, rfl⟩
                  refine hK _ _ ?_
                  clear hK K
                  refine wpAny_done (by kernel_rfl) ?_ _
                  have HR2 : Hid (RB w2.drew g ⟨y.toArray⟩ (n + 1) (.slice d2 labs.length cap2) (.slice d3 lines.length cap3)) := Lib.hid (HR1.out.below HB2.out.drew)
                  have HO22 : Hid (w2.drew.ownsRow (g + 1) 106 2 (.slice d2 labs.length cap2) labs.length (labCells labs)) := Lib.hid (own_below (HO2.out.kept HGr.out (.inr (ownB_ge HO2.out g (Nat.lt_succ_self g)))) HB2.out.drew)
                  have HO32 : Hid (w2.drew.ownsRow (g + 1) 80 6 (.slice d3 lines.length cap3) lines.length (linCells lines)) := Lib.hid (own_below (HO3.out.kept HGr.out (.inr (ownB_ge HO3.out g (Nat.lt_succ_self g)))) HB2.out.drew)
                  have HBt : Hid (Below g w w2.drew) := Lib.hid ((below_g HBr.out HGr.out HR.out.lt).trans (HB2.out.drew.mono (Nat.le_of_lt HR1.out.lt)))
                  generalize w2.drew = w3 at HR2 HO22 HO32 HBt ⊢
                  have HGlt : Hid (g < w3.heap.size) := Lib.hid HR2.out.lt
                  have hle : g + 1 ≤ w3.heap.size := HGlt.out
                  have q2 := HR2.out.c2
                  have q3 := HR2.out.c3
                  have q2' : ∀ o, (w3.alloc o).cell? ⟨g, 2, none⟩ = some (.slice d2 labs.length cap2) := fun o => (World.cell?_of_block (a := ⟨g, 2, none⟩) (Below.heap_alloc w3 o g HGlt.out)).trans q2
                  have q3' : ∀ o, (w3.alloc o).cell? ⟨g, 3, none⟩ = some (.slice d3 lines.length cap3) := fun o => (World.cell?_of_block (a := ⟨g, 3, none⟩) (Below.heap_alloc w3 o g HGlt.out)).trans q3
                  have HNG : Hid (some g ≠ (Value.slice d2 labs.length cap2).ownBlock) := Lib.hid (Ne.symm (ownB_ge HO22.out g (Nat.lt_succ_self g)))
                  obtain ⟨i0, hi0, hz0, hz1, hz2⟩ := info_parts inf106
                  have hlab : labs.length + 1 ≤ 4294967296 := by have := HN.out; omega
                  have hlen' : labs.length + 1 ≤ maxLen := by show _ ≤ 9223372036854775807; omega
                  have hbyt : (labs.length + 1) * 24 ≤ 140737488355328 := by omega
                  go_wp2_with fail
                  go_region_law
                    ((refine step_append_lies _ (by rfl) _ _ _ (by rfl) (g + 1) 106 i0 _ 2 24 Tryd.underlying75 hi0 hz0 hz1 hz2 rfl (by omega) (.slice d2 labs.length cap2) labs.length (labCells labs) (by rfl) ((HO22.out.alloc _).drew)
                        ⟨w3.heap.size, 0, none⟩ 1 1 [.string ⟨l.toArray⟩, .int .i64 lines.length] (by rfl) (by rfl) (World.news_of_block (cs := #[.string ⟨l.toArray⟩, .int .i64 lines.length]) (t := 106) (fr := (0, 0)) (heap_alloc_new w3 _)) (by simp [Value.oneCell'])
                        (by omega) hlen' hbyt (by simp; omega) (w3.heap.size + 1) (by simp) ?_; intro gg cap' w7 hown7 hgrow hat hlt7; have p7 : w7.frozen? ⟨g, 2, none⟩ = false := (hgrow.frozen_far ⟨g, 2, none⟩ (by show g < _; have := HGlt.out; simp; omega) HNG.out).trans (Lib.frozen_of_heap ((Below.heap_alloc w3 _ g HGlt.out).trans HR2.out) 2); have c7 := (hgrow.cell_far ⟨g, 2, none⟩ (by show g < _; have := HGlt.out; simp; omega) HNG.out).trans (Lib.cell_of_heap ((Below.heap_alloc w3 _ g HGlt.out).trans HR2.out) 2)))
                  all_goals
                    have HR7 : RB w7 g ⟨y.toArray⟩ (n + 1) (.slice d2 labs.length cap2) (.slice d3 lines.length cap3) := ((hgrow.block g (by have := HGlt.out; simp; omega) HNG.out).trans (Below.heap_alloc w3 _ g HGlt.out)).trans HR2.out
                    go_wp2_with fail
                    go_roundw
                    case rel =>
                      refine ⟨y, n + 1, labs ++ [(l, (lines.length : Int))], lines, Lib.hid ⟨.slice (some ⟨gg, 0, none⟩) (labs.length + 1) cap', .slice d3 lines.length cap3, HR7.s2 _, ?_, ?_⟩, Lib.hid ?_, Lib.hid ?_, Lib.hid ?_⟩
                      · rw [labCells_app, List.length_append]
                        exact ownsRow_setCell_below hown7 (Nat.lt_succ_self g) _
                      · exact ownsRow_setCell_below ((HO32.out.alloc _).drew.kept hgrow (own_ne HO32.out HO22.out (by decide))) (Nat.lt_succ_self g) _
                      · exact ((((HBt.out.alloc (Nat.le_of_lt HGlt.out) _).drew).grown hgrow (by have := HGlt.out; simp; omega) (fun k hk => Nat.le_of_lt (HO22.out.lt k hk).1)).setCell (Nat.le_refl _) _)
                      · rw [HP.out]
                        refine p1_go hcut n _ _ ?_
                        simp [oneLine, hi, hf]
                      · have h1 := HN.out
                        have h2 := cutC_length hcut
                        simp only [List.length_append, List.length_cons, List.length_nil] at h1 h2 ⊢
                        omega
                    case measure =>
                      rw [txtLen_eq (HR7.s2 _).c0, txtLen_eq HR.out.c0]
                      have := cutC_length hcut
                      omega
            · have hpf : Lib.hasPrefix (b :: l) [58] = false := by
                show ((58 : UInt8) == b && _) = false
                rw [show ((58 : UInt8) == b) = false from beq_eq_false_iff_ne.2 (Ne.symm hb58)]
                rfl
              have hb35' : ((b.toNat : Int) == 35) = false := by
                rw [beq_eq_false_iff_ne]
                intro h
                exact hb35 (UInt8.toNat_inj.1 (by have : (b.toNat : Int) = ((35 : UInt8).toNat : Int) := h; omega))
              have hget : (⟨(b :: l).toArray⟩ : ByteArray)[0]'(by rw [mk_size]; simp) = b := rfl
              have hll : Hid ((b :: l).length < 4294967281) := Lib.hid (by
                have h1 := HN.out
                have h2 := cutC_length hcut
                simp only [List.length_cons] at h1 h2 ⊢
                omega)
              have hone : ∀ n, oneLine n (b :: l) (labs, lines) = match insOf lines.length (b :: l) with
                  | none => none
                  | some p => some (labs, lines ++ [⟨p.1, p.2, n⟩]) := by
                intro n
                unfold oneLine
                simp only [hb35, hb58, if_false]
                cases insOf lines.length (b :: l) <;> rfl
              have HONE := Lib.hid hone
              clear hone
              cases hio : insOf lines.length (b :: l) with
              | none =>
                go_wp2_with (first
                  | (go_at_call 45; refine (next_yes g _ n _ _ _ _ wr HEr.out HG8.out hlen HR.out HN.out.1 (by have := HN.out; omega) (cut_some hcut)).mono ?_; rintro e w1 ⟨rfl, hr1, hgr⟩; have HR1 := Lib.hid hr1; have HGr := Lib.hid hgr; clear hgr hr1)
                  | (go_at_call 46; refine (cutCol_no (b :: l) _ hpf).mono ?_; rintro e w' ⟨rfl, rfl⟩)
                  | (go_at_call 50; refine (instruction_no hio (HEr.out.grown HG8.out HGr.out) HG8.out (st_next HR1.out HGr.out HO2.out HO3.out) hll.out).mono ?_; rintro e w2 ⟨rfl, hb⟩; have HB2 := Lib.hid hb; clear hb))
                refine bodyPost_panic (P := Tryd.prog) (fn := Tryd.f40) rfl ?_
                have hrd : readL T = .wrong (n + 1) := by
                  unfold readL
                  have h2 : p1 T 0 ([], []) = .wrong (n + 1) := by
                    rw [HP.out]
                    refine p1_bad hcut n _ ?_
                    rw [HONE.out, hio]
                  unfold p1 at h2
                  rw [h2]
                rw [hrd]
                exact ⟨(below_g HBr.out HGr.out HR.out.lt).trans HB2.out, rfl⟩
              | some p =>
                go_wp2_with (first
                  | (go_at_call 45; refine (next_yes g _ n _ _ _ _ wr HEr.out HG8.out hlen HR.out HN.out.1 (by have := HN.out; omega) (cut_some hcut)).mono ?_; rintro e w1 ⟨rfl, hr1, hgr⟩; have HR1 := Lib.hid hr1; have HGr := Lib.hid hgr; clear hgr hr1)
                  | (go_at_call 46; refine (cutCol_no (b :: l) _ hpf).mono ?_; rintro e w' ⟨rfl, rfl⟩)
                  | (go_at_call 50; refine (instruction_yes hio (HEr.out.grown HG8.out HGr.out) HG8.out (st_next HR1.out HGr.out HO2.out HO3.out) hll.out).mono ?_; rintro e w2 ⟨rfl, hst, hb⟩; have HB2 := Lib.hid hb; have HST := Lib.hid hst; clear hb hst))
                go_roundw
                case rel => exact ⟨y, n + 1, labs, lines ++ [⟨p.1, p.2, n + 1⟩], HST, Lib.hid ((below_g HBr.out HGr.out HR.out.lt).trans HB2.out), Lib.hid (by rw [HP.out]; refine p1_go hcut n _ _ ?_; rw [HONE.out, hio]), Lib.hid (by
                  have h1 := HN.out
                  have h2 := cutC_length hcut
                  have h3 := insOf_lt hio
                  simp only [List.length_append, List.length_cons, List.length_nil] at h1 h2 ⊢
                  omega)⟩
                case measure =>
                  obtain ⟨_, _, hR2, _⟩ := HST.out
                  rw [txtLen_eq hR2.c0, txtLen_eq HR.out.c0]
                  have := cutC_length hcut
                  omega
end Go.Proofs.YtcamimfepcoggaaDoor
