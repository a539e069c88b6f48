/- The contract of asm's reader's instruction, whatever the line. -/
import Derived.Test.YtcamimfepcoggaaDoorRd6
import Derived.Lib.SmallJoins
namespace Go.Proofs.YtcamimfepcoggaaDoor
open Go.RowKit
/-- A line's instruction, where there is room for one more. -/
def insOf (k : Nat) (text : Bs) : Option (Ins × Bs) := if k < 512 then insL text else none
theorem instruction_any (g : Nat) (s t : ByteArray) (n : Int) (labs : List (Bs × Int)) (lines : List Ln) (w : World) (hE : Env w) (hg8 : 8 ≤ g) (hS : St w g t n labs lines) (hs : s.size < 4294967281) :
    Calls Tryd.prog 50 #[.pointer (some ⟨g, 0, none⟩), .string s] w (InsPost g t n labs lines (insOf lines.length s.data.toList) w) := by
  obtain ⟨v2, v3, hR, hO2, hO3⟩ := hS
  have hg := hR.lt
  have bad : insOf lines.length s.data.toList = none → ∀ e w', (e = wrongE n ∧ Below w.heap.size w w') → InsPost g t n labs lines (insOf lines.length s.data.toList) w e w' := by
    rintro h e w' ⟨rfl, hb⟩
    rw [h]
    exact ⟨hb.mono (Nat.le_of_lt hg), rfl⟩
  rcases hsp : splitC 32 s.data.toList with _ | ⟨w0, ws⟩
  · exact absurd hsp (splitC_ne _ _)
  rcases hbn : byName w0 with ⟨op, ok⟩
  cases ok with
  | false =>
    refine (ins_bad_op g s n w0 ws w hE hR.c1 hg hs hsp op hbn).mono (bad ?_)
    simp [insOf, insL, hsp, hbn]
  | true =>
    by_cases hk : ws.length = operands op
    · obtain ⟨d, cap, rfl⟩ : ∃ d cap, v3 = .slice d lines.length cap := by
        rcases hO3.2 with ⟨rfl, h0⟩ | ⟨gr, cap, cur, rfl, _⟩
        · exact ⟨none, 0, by rw [h0]⟩
        · exact ⟨_, _, rfl⟩
      by_cases hlt : lines.length < 512
      · have h : insOf lines.length s.data.toList = readWords op 0 ws ((op, 0, 0, 0), []) := by simp [insOf, insL, hsp, hbn, hk, hlt]
        rw [h]
        exact ins_go g s t n v2 labs lines d cap w0 ws w hE hg8 hR hO2 hO3 hs hsp op hbn _ hk rfl hlt
      · refine (ins_many g s n w0 ws w hE hR.c1 hg hs hsp op hbn _ hk rfl d lines.length cap hR.c3 (decide_eq_false (by omega))).mono (bad ?_)
        simp [insOf, hlt]
    · refine (ins_bad_len g s n w0 ws w hE hR.c1 hg hs hsp op hbn _ rfl hk).mono (bad ?_)
      simp [insOf, insL, hsp, hbn, hk]
end Go.Proofs.YtcamimfepcoggaaDoor
