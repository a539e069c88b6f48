/- The walks of the laws' example, and of the laws' own cuts. -/
import Derived.Test.YtcamimfepcoggaaDoorPa1
import Derived.Test.YtcamimfepcoggaaDoorPr1
namespace Go.Proofs.YtcamimfepcoggaaDoor
open Go.RowKit
theorem parse_eq {T : Bs} {l : List Ins} {n er : Int} (h : parseL T = (l, n, er)) (w : World) (hE : Env w) :
    Calls Tryd.prog 15 #[.string ⟨T.toArray⟩] w fun e w' => (∃ v, e = .returned (.tuple #[v, .int .i64 n, .int .i64 er]) ∧ InsAt w' v l) ∧ Below w.heap.size w w' := by
  refine (parse_any T w hE).mono ?_
  rw [h]
  exact fun e w' h => h
theorem print_eq {v : Value} {l : List Ins} {t : Bs} {er : Int} (h : printL l = (t, er)) (w : World) (hE : Env w) (hv : InsAt w v l) :
    Calls Tryd.prog 9 #[v] w fun e w' => e = .returned (.tuple #[.string ⟨t.toArray⟩, .int .i64 er]) ∧ Below w.heap.size w w' := by
  refine (print_any v l w hE hv).mono ?_
  rw [h]
  exact fun e w' h => h
theorem same_true {p q : Value} {l : List Ins} (w : World) (hp : InsAt w p l) (hq : InsAt w q l) (hl : l.length ≤ 4294967296) :
    Calls Tryd.prog 16 #[p, q] w fun e w' => e = .returned (.bool true) ∧ Below w.heap.size w w' := by
  refine (same_any p q l l w hp hq hl).mono ?_
  rw [decide_eq_true rfl]
  exact fun e w' h => h
theorem InsAt.on {B : Nat} {w w' : World} {v : Value} {l : List Ins} (h : InsAt w v l) (hb : Below B w w') (hB : w.heap.size ≤ B) : InsAt w' v l := h.below (hb.mono hB)
/-- A row of cells just laid, as a program. -/
theorem insAt_new (w : World) (l : List Ins) (cap : Nat) : InsAt (w.alloc (.cells (insCells l).toArray 25)) (.slice (some ⟨w.heap.size, 0, none⟩) l.length cap) l := by
  refine ⟨_, cap, rfl, .inr ⟨w.heap.size, 0, rfl, by simp, fun i hi j u hu => ?_⟩⟩
  have := insCells_at l i hi j u hu
  rw [Lib.cell_of_heap (heap_alloc_new w _), Nat.zero_add]
  simpa using this
theorem aw1 : parseL [58, 97, 103, 97, 105, 110, 10, 106, 117, 109, 112, 122, 32, 114, 49, 32, 64, 97, 103, 97, 105, 110, 10, 104, 97, 108, 116, 10] = ([(9, 1, 0, 0), (20, 0, 0, 0)], 0, 0) := by kernel_rfl
theorem aw2 : printL [(9, 1, 0, 0), (20, 0, 0, 0)] = ([58, 76, 48, 10, 106, 117, 109, 112, 122, 32, 114, 49, 32, 64, 76, 48, 10, 104, 97, 108, 116, 10], 0) := by kernel_rfl
theorem aw3 : parseL [10, 104, 97, 108, 116, 32, 114, 49, 10] = ([], 2, 130) := by kernel_rfl
set_option maxRecDepth 100000 in
set_option maxHeartbeats 4000000 in
theorem awake_any (w : World) (hE : Env w) :
    Calls Tryd.prog 13 #[] w fun e w' => e = .returned (.bool true) ∧ Below w.heap.size w w' := by
  obtain ⟨i0, hi0, hz0, hz1, hz2⟩ := info_parts inf25
  have HE := Lib.hid hE
  clear hE
  go_enter Tryd.func13, Tryd.ntmps13
  go_wp2_with (go_at_call 15; refine (parse_eq aw1 _ HE.out).mono ?_)
  rintro e w1 ⟨⟨v1, rfl, hv1⟩, hb1⟩
  have HB1 := Lib.hid hb1
  have HV1 := Lib.hid hv1
  clear hb1 hv1
  go_wp2_with (go_at_call 9; refine (print_eq aw2 _ ((HE.out.on HB1.out).on ((Below.refl _ _).alloc (Nat.le_refl _) _)) (insAt_new w1 [(9, 1, 0, 0), (20, 0, 0, 0)] 2)).mono ?_)
  rintro e w2 ⟨rfl, hb2⟩
  have hb2' : Below w.heap.size w w2 := (HB1.out.alloc HB1.out.size _).trans (hb2.mono (by have := HB1.out.size; simp; omega))
  have hv2 : InsAt w2 v1 _ := HV1.out.on (((Below.refl w1.heap.size w1).alloc (Nat.le_refl _) _).trans (hb2.mono (by simp))) (Nat.le_refl _)
  have HB2 := Lib.hid hb2'
  have HV2 := Lib.hid hv2
  clear hb2 hb2' hv2
  go_wp2_with (go_at_call 15; refine (parse_eq aw3 _ (HE.out.on HB2.out)).mono ?_)
  rintro e w3 ⟨⟨v3, rfl, _⟩, hb3⟩
  have hb3' : Below w.heap.size w w3 := HB2.out.trans (hb3.mono HB2.out.size)
  have hv3 := HV2.out.on hb3 (Nat.le_refl _)
  have HB3 := Lib.hid hb3'
  have HV3 := Lib.hid hv3
  clear hb3 hb3' hv3
  go_wp2_with (go_at_call 16; refine (same_true _ (HV3.out.on ((Below.refl w3.heap.size w3).alloc (Nat.le_refl _) _) (Nat.le_refl _)) (insAt_new w3 [(9, 1, 0, 0), (20, 0, 0, 0)] 2) (by simp)).mono ?_)
  rintro e w4 ⟨rfl, hb4⟩
  have HB4 : Hid (Below w.heap.size w w4) := Lib.hid ((HB3.out.alloc HB3.out.size _).trans (hb4.mono (by have := HB3.out.size; simp; omega)))
  clear hb4
  go_wp2
  go_ret
  exact ⟨rfl, HB4.out⟩
theorem few_any (ao : Option Addr) (n cap : Nat) (w : World) (hc : n ≤ cap) :
    Calls Tryd.prog 8 #[.slice ao n cap] w fun e w' => e = .returned (.slice ao (min n 520) cap) ∧ w' = w := by
  by_cases h : (n : Int) ≤ 520
  · go_enter Tryd.func8, Tryd.ntmps8
    go_wp2
    go_ret
    exact ⟨by rw [show (min (n : Int) 520).toNat = min n 520 by omega]; rfl, rfl⟩
  · have h' : (520 : Int) < n := by omega
    clear h
    go_enter Tryd.func8, Tryd.ntmps8
    go_wp2
    go_ret
    exact ⟨by rw [show (min (n : Int) 520).toNat = min n 520 by omega]; rfl, rfl⟩
theorem InsAt.few {w : World} {ao : Option Addr} {cap : Nat} {l : List Ins} (h : InsAt w (.slice ao l.length cap) l) : InsAt w (.slice ao (min l.length 520) cap) (l.take 520) := by
  obtain ⟨ao', cap', hv, h⟩ := h
  injection hv with h1 _ h2
  subst h1 h2
  refine ⟨ao, cap, by rw [List.length_take, Nat.min_comm], ?_⟩
  rcases h with h | ⟨g, k, ha, hg, hc⟩
  · exact .inl (by rw [h]; rfl)
  · refine .inr ⟨g, k, ha, hg, fun i hi j u hu => ?_⟩
    rw [List.getElem_take] at hu
    exact hc i (by rw [List.length_take] at hi; omega) j u hu
theorem extract_take (T : Bs) (m n : Nat) (h : m = min T.length n) : (⟨T.toArray⟩ : ByteArray).extract 0 m = ⟨(T.take n).toArray⟩ := by
  have e : ((⟨T.toArray⟩ : ByteArray).extract 0 m).data.toList = (⟨(T.take n).toArray⟩ : ByteArray).data.toList := by
    rw [ByteArray.data_extract]
    simp
    omega
  rw [← back ((⟨T.toArray⟩ : ByteArray).extract 0 m), e]
theorem cut_any (T : Bs) (w : World) :
    Calls Tryd.prog 14 #[.string ⟨T.toArray⟩] w fun e w' => e = .returned (.string ⟨(T.take 4000).toArray⟩) ∧ w' = w := by
  have hs : (⟨T.toArray⟩ : ByteArray).size = T.length := rfl
  by_cases h : ((⟨T.toArray⟩ : ByteArray).size : Int) ≤ 4000
  · go_enter Tryd.func14, Tryd.ntmps14
    go_wp2
    go_ret
    exact ⟨by rw [extract_take _ _ 4000 (by omega)]; rfl, rfl⟩
  · have h' : (4000 : Int) < (⟨T.toArray⟩ : ByteArray).size := by omega
    clear h
    go_enter Tryd.func14, Tryd.ntmps14
    go_wp2
    go_ret
    exact ⟨by rw [extract_take _ _ 4000 (by omega)]; rfl, rfl⟩
end Go.Proofs.YtcamimfepcoggaaDoor
