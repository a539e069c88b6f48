/- The walk of asm's Parse: a text's program; or the number of the line that is wrong, and the error. -/
import Derived.Test.YtcamimfepcoggaaDoorRe1
import Derived.Test.YtcamimfepcoggaaDoorSm1
namespace Go.Proofs.YtcamimfepcoggaaDoor
open Go.RowKit
/-- A text's program, the number of the line that is wrong, the error. -/
def parseL (T : Bs) : List Ins × Int × Int := if 262144 < T.length then ([], 0, 2) else match readL T with
  | .wrong n => ([], n, 130)
  | .ok (_, lines) => (lines.map (·.i), 0, 0)
theorem insCells_app (ls : List Ins) (x : Ins) : insCells (ls ++ [x]) = insCells ls ++ iCells x := by simp [insCells]
theorem pass2_length (labs : List (Bs × Int)) : ∀ (ls xs : List Ln), pass2 labs ls = .ok xs → xs.length = ls.length
  | [], xs, h => by
    injection h with h
    rw [← h]
  | l :: ls, xs, h => by
    unfold pass2 at h
    cases hf : fixLine labs l with
    | none => rw [hf] at h; cases h
    | some x =>
      rw [hf] at h
      dsimp only at h
      cases hp : pass2 labs ls with
      | wrong n => rw [hp] at h; cases h
      | ok ys =>
        rw [hp] at h
        injection h with h
        rw [← h, List.length_cons, List.length_cons, pass2_length labs ls ys hp]
theorem oneLine_length {n : Int} {s : Bs} {st st' : List (Bs × Int) × List Ln} (h : oneLine n s st = some st') (hl : st.2.length ≤ 512) : st'.2.length ≤ 512 := by
  unfold oneLine at h
  split at h
  · injection h with h; rw [← h]; exact hl
  · split at h
    · injection h with h; rw [← h]; exact hl
    · split at h
      · split at h
        · injection h with h; rw [← h]; exact hl
        · cases h
      · split at h
        · cases h
        · rename_i p hp
          injection h with h
          have := insOf_lt hp
          rw [← h]
          simp; omega
theorem pass1_length : ∀ (xs : List Bs) (rest : Bs) (n : Int) (st : List (Bs × Int) × List Ln) (m : Int) (st' : List (Bs × Int) × List Ln), pass1 xs rest n st = .ok (m, st') → st.2.length ≤ 512 → st'.2.length ≤ 512
  | [], [], n, st, m, st', h, hl => by
    injection h with h
    injection h with h1 h2
    rw [← h2]; exact hl
  | [], _ :: _, n, st, m, st', h, hl => by cases h
  | x :: xs, rest, n, st, m, st', h, hl => by
    unfold pass1 at h
    cases ho : oneLine (n + 1) x st with
    | none => rw [ho] at h; cases h
    | some st1 =>
      rw [ho] at h
      exact pass1_length xs rest (n + 1) st1 m st' h (oneLine_length ho hl)
theorem readL_length {T : Bs} {labs : List (Bs × Int)} {lines : List Ln} (h : readL T = .ok (labs, lines)) : lines.length ≤ 512 := by
  unfold readL at h
  split at h
  · cases h
  · rename_i m labs' ls hp
    split at h
    · cases h
    · rename_i xs h2
      injection h with h
      injection h with _ h
      rw [← h, pass2_length _ _ _ h2]
      exact pass1_length _ _ _ _ _ _ hp (by simp)
theorem lin_get (ls : List Ln) (k : Nat) (h : k < ls.length) (j : Nat) (u : Value) (hj : (lnCells ls[k])[j]? = some u) : (linCells ls)[k * 6 + j]? = some u := by
  have e : ls = ls.take k ++ ls[k] :: ls.drop (k + 1) := by rw [List.getElem_cons_drop, List.take_append_drop]
  have := lin_at ls[k] (ls.drop (k + 1)) j u hj (ls.take k)
  rw [← e, List.length_take, Nat.min_eq_left (Nat.le_of_lt h)] at this
  exact this
theorem own_base {w : World} {B B' e size n : Nat} {v : Value} {xs : List Value} (h : w.ownsRow B e size v n xs) (hB : B' ≤ B) : w.ownsRow B' e size v n xs :=
  ⟨h.1, h.2.imp id fun ⟨g, cap, cur, h1, h2, h3⟩ => ⟨g, cap, cur, h1, Nat.le_trans hB h2, h3⟩⟩
theorem long_of {T : Bs} (h : 262144 < T.length) : decide ((262144 : Int) < ((⟨T.toArray⟩ : ByteArray).size : Int)) = true :=
  decide_eq_true (by have e : (⟨T.toArray⟩ : ByteArray).size = T.length := rfl; rw [e]; omega)
set_option maxRecDepth 100000 in
set_option maxHeartbeats 4000000 in
theorem parse_ok (T : Bs) (labs : List (Bs × Int)) (lines : List Ln) (w : World) (h : readL T = .ok (labs, lines)) (hE : Env w) (hs : T.length ≤ 262144) :
    Calls Tryd.prog 15 #[.string ⟨T.toArray⟩] w fun e w' => (∃ v, e = .returned (.tuple #[v, .int .i64 0, .int .i64 0]) ∧ w'.ownsRow w.heap.size 25 4 v lines.length (insCells (lines.map (·.i)))) ∧ Below w.heap.size w w' := by
  have hlen := readL_length h
  obtain ⟨i0, hi0, hz0, hz1, hz2⟩ := info_parts inf25
  go_enter Tryd.func15, Tryd.ntmps15
  go_wp2_with (go_at_call 32; refine (read_ok T labs lines w h hE hs).mono ?_)
  rintro e w2 ⟨rfl, hb2, t, n, v2, v3, hR, _, hO⟩
  have c3 := hR.c3
  have hgl := hR.lt
  rcases hO.2 with ⟨rfl, hz⟩ | ⟨gr, cap, cur, rfl, _⟩
  · obtain rfl : lines = [] := List.eq_nil_of_length_eq_zero hz
    have HB2 := Lib.hid hb2
    clear hb2 hO
    go_wp2
    refine wp_loop_rounds 1 ?_
    rw [rounds_succ]
    go_wp2
    go_ret3
    exact ⟨⟨_, rfl, World.ownsRow_nil _ _ _ _⟩, HB2.out⟩
  · have hcells : ∀ (k : Nat) (hk : k < lines.length), w2.cell? ⟨gr, k * 6, none⟩ = some (.int .i64 lines[k].i.1) ∧ w2.cell? ⟨gr, k * 6 + 1, none⟩ = some (.int .i64 lines[k].i.2.1) ∧ w2.cell? ⟨gr, k * 6 + 2, none⟩ = some (.int .i64 lines[k].i.2.2.1) ∧ w2.cell? ⟨gr, k * 6 + 3, none⟩ = some (.int .i64 lines[k].i.2.2.2) ∧ w2.cell? ⟨gr, k * 6 + 4, none⟩ = some (.string ⟨lines[k].lab.toArray⟩) ∧ w2.cell? ⟨gr, k * 6 + 5, none⟩ = some (.int .i64 lines[k].n) := by
      intro k hk
      have := hO.cells (g := gr) rfl
      have a0 := this _ _ (lin_get lines k hk 0 _ rfl)
      have a1 := this _ _ (lin_get lines k hk 1 _ rfl)
      have a2 := this _ _ (lin_get lines k hk 2 _ rfl)
      have a3 := this _ _ (lin_get lines k hk 3 _ rfl)
      have a4 := this _ _ (lin_get lines k hk 4 _ rfl)
      have a5 := this _ _ (lin_get lines k hk 5 _ rfl)
      simp only [Addr.add_lit, Nat.zero_add] at a0 a1 a2 a3 a4 a5
      exact ⟨a0, a1, a2, a3, a4, a5⟩
    have hgr : gr < w2.heap.size := (hO.lt gr rfl).2
    have HC := Lib.hid hcells
    have HGR := Lib.hid hgr
    have HB2 := Lib.hid hb2
    clear hcells hO hgr hb2
    go_wp2
    go_loopw [8, 26] (fun v i wr => ∃ k : Nat, k ≤ lines.length ∧ i = .int .i64 k ∧ Below w2.heap.size w2 wr ∧ wr.ownsRow w2.heap.size 25 4 v k (insCells ((lines.take k).map (·.i)))) (fun _ i _ => lines.length - (intOf i).toNat)
    case atStart => exact ⟨0, Nat.zero_le _, rfl, Below.refl _ _, World.ownsRow_nil _ _ _ _⟩
    case round =>
      obtain ⟨k, hk, rfl, hb, ho⟩ := hrel
      have HB := Lib.hid hb
      have HO := Lib.hid ho
      clear hb ho
      by_cases hlt : k < lines.length
      · obtain ⟨a0, a1, a2, a3, a4, a5⟩ := HC.out k hlt
        have b0 := (HB.out.cell (p := ⟨gr, k * 6, none⟩) HGR.out).trans a0
        have b1 := (HB.out.cell (p := ⟨gr, k * 6 + 1, none⟩) HGR.out).trans a1
        have b2 := (HB.out.cell (p := ⟨gr, k * 6 + 2, none⟩) HGR.out).trans a2
        have b3 := (HB.out.cell (p := ⟨gr, k * 6 + 3, none⟩) HGR.out).trans a3
        have b4 := (HB.out.cell (p := ⟨gr, k * 6 + 4, none⟩) HGR.out).trans a4
        have b5 := (HB.out.cell (p := ⟨gr, k * 6 + 5, none⟩) HGR.out).trans a5
        clear a0 a1 a2 a3 a4 a5
        have hkI : (k : Int) < (lines.length : Int) := by omega
        go_wp2_with (at_builtin; refine wpList_append_lies _ rfl (.tmp 30) (.tmp 33) 22 rfl w2.heap.size 25 i0 (.agg #[.int .i64 0, .int .i64 0, .int .i64 0, .int .i64 0]) 4 32 Tryd.underlying22 hi0 hz0 hz1 hz2 rfl (by decide) _ k _ rfl ((HO.out.alloc _).alloc _) ⟨wr.heap.size + 1, 0, none⟩ 1 1 (iCells lines[k].i) rfl rfl ?c1 ?c2 (by decide) ?c4 ?c5 ?c6 _ rfl ?_)
        case c1 => exact World.news_of_block (cs := (iCells lines[k].i).toArray) (t := 25) (fr := (0, 0)) (by
            have e : wr.heap.size + 1 = (wr.alloc (.cells #[.int .i64 lines[k].i.1, .int .i64 lines[k].i.2.1, .int .i64 lines[k].i.2.2.1, .int .i64 lines[k].i.2.2.2, .string ⟨lines[k].lab.toArray⟩, .int .i64 lines[k].n] 80)).heap.size := by simp
            rw [e]
            exact heap_alloc_new _ _)
        case c2 => intro u hu; simp [iCells] at hu; rcases hu with rfl | rfl | rfl | rfl <;> rfl
        case c4 => unfold maxLen; omega
        case c5 => omega
        case c6 => have := HB.out.size; simp; omega
        intro ga capa w3 hown3 hgrow3 hat3 hlt3
        go_wp2
        go_roundw
        case rel => exact ⟨k + 1, by omega, by go_num, ((HB.out.alloc HB.out.size _).alloc (by have := HB.out.size; simp; omega) _).grown hgrow3 (by have := HB.out.size; simp; omega) (fun j hj => (HO.out.lt j hj).1), by
            rw [← List.map_take] at hown3
            rw [List.take_succ_eq_append_getElem hlt, List.map_append, List.map_cons, List.map_nil, insCells_app]
            exact hown3⟩
        case measure => simp [intOf]; omega
      · obtain rfl : k = lines.length := by omega
        go_wp2
        go_ret3
        refine ⟨⟨_, rfl, ?_⟩, HB2.out.trans (HB.out.mono HB2.out.size)⟩
        have := HO.out
        rw [List.take_length] at this
        exact own_base this HB2.out.size
set_option maxRecDepth 100000 in
set_option maxHeartbeats 4000000 in
theorem parse_wrong (T : Bs) (n : Int) (w : World) (h : readL T = .wrong n) (hE : Env w) (hs : T.length ≤ 262144) :
    Calls Tryd.prog 15 #[.string ⟨T.toArray⟩] w fun e w' => e = .returned (.tuple #[.slice none 0 0, .int .i64 n, .int .i64 130]) ∧ Below w.heap.size w w' := by
  go_enter Tryd.func15, Tryd.ntmps15
  go_wp2_with (go_at_call 32; refine (read_wrong T n w h hE hs).mono ?_)
  rintro e w2 ⟨rfl, hb2⟩
  go_wp2
  go_ret3
  exact ⟨rfl, hb2⟩
theorem parse_long (T : Bs) (w : World) (hs : 262144 < T.length) :
    Calls Tryd.prog 15 #[.string ⟨T.toArray⟩] w fun e w' => e = .returned (.tuple #[.slice none 0 0, .int .i64 0, .int .i64 2]) ∧ Below w.heap.size w w' := by
  go_enter Tryd.func15, Tryd.ntmps15
  go_wp2_with (go_at_call 32; refine (read_long _ w (long_of hs)).mono ?_)
  rintro e w2 ⟨rfl, hb2⟩
  go_wp2
  go_ret3
  exact ⟨rfl, hb2⟩
/-- Parse: a program that lies in memory. -/
theorem parse_any (T : Bs) (w : World) (hE : Env w) :
    Calls Tryd.prog 15 #[.string ⟨T.toArray⟩] w fun e w' => (∃ v, e = .returned (.tuple #[v, .int .i64 (parseL T).2.1, .int .i64 (parseL T).2.2]) ∧ InsAt w' v (parseL T).1) ∧ Below w.heap.size w w' := by
  by_cases hs : 262144 < T.length
  · refine (parse_long T w hs).mono ?_
    rintro e w' ⟨rfl, hb⟩
    have hp : parseL T = ([], 0, 2) := by unfold parseL; rw [if_pos hs]
    rw [hp]
    exact ⟨⟨_, rfl, none, 0, rfl, .inl rfl⟩, hb⟩
  · cases h : readL T with
    | wrong n =>
      refine (parse_wrong T n w h hE (by omega)).mono ?_
      rintro e w' ⟨rfl, hb⟩
      have hp : parseL T = ([], n, 130) := by unfold parseL; rw [if_neg hs, h]
      rw [hp]
      exact ⟨⟨_, rfl, none, 0, rfl, .inl rfl⟩, hb⟩
    | ok p =>
      obtain ⟨labs, lines⟩ := p
      refine (parse_ok T labs lines w h hE (by omega)).mono ?_
      rintro e w' ⟨⟨v, rfl, ho⟩, hb⟩
      have hp : parseL T = (lines.map (·.i), 0, 0) := by unfold parseL; rw [if_neg hs, h]
      rw [hp]
      exact ⟨⟨v, rfl, InsAt.own (by rw [List.length_map]; exact ho)⟩, hb⟩
end Go.Proofs.YtcamimfepcoggaaDoor
