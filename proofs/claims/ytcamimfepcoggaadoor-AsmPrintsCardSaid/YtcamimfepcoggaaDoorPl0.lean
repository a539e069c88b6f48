/- Plain words that the walks and the plain laws share: bytes, instructions, the table of instructions; no Go in sight. -/
namespace Go.Proofs.YtcamimfepcoggaaDoor
/-- A text. -/
abbrev Bs := List UInt8
/-- An instruction: its kind, and three numbers. -/
abbrev Ins := Int × Int × Int × Int

/-- By kinds: the name, and the sorts of what it has (1 register, 2 number, 3 place, 4 field, 5 size, 6 mask, 0 none). -/
def formT : List (Bs × Int × Int × Int) :=
  [([], 0, 0, 0), ([99, 111, 110, 115, 116], 1, 2, 0), ([110, 105, 108], 1, 0, 0), ([109, 111, 118, 101], 1, 1, 0), ([97, 100, 100], 1, 1, 1), ([115, 117, 98], 1, 1, 1),
   ([108, 101, 115, 115], 1, 1, 1), ([101, 113], 1, 1, 1), ([106, 117, 109, 112], 3, 0, 0), ([106, 117, 109, 112, 122], 1, 3, 0), ([114, 111, 111, 116], 1, 0, 0),
   ([110, 101, 119], 1, 5, 6), ([102, 114, 101, 101], 1, 0, 0), ([103, 101, 116], 1, 1, 4), ([115, 101, 116], 1, 4, 1), ([98, 101, 103, 105, 110], 0, 0, 0), ([101, 108, 115, 101], 0, 0, 0),
   ([101, 110, 100], 0, 0, 0), ([114, 101, 116, 114, 121], 0, 0, 0), ([101, 109, 105, 116], 1, 0, 0), ([104, 97, 108, 116], 0, 0, 0)]

/-- A kind's row; of no kind: nothing. -/
def formOf (op : Int) : Bs × Int × Int × Int := if 1 ≤ op ∧ op ≤ 20 then formT.getD op.toNat ([], 0, 0, 0) else ([], 0, 0, 0)
/-- Is there such a kind? -/
def isOp (op : Int) : Bool := decide (1 ≤ op) && decide (op ≤ 20)
def withinB (n lo hi : Int) : Bool := decide (lo ≤ n) && decide (n ≤ hi)
/-- Is a number of a sort? -/
def fitsB (s n f : Int) : Bool :=
  if s = 1 then withinB n 0 7 else if s = 2 then withinB n (-1099511627776) 1099511627776 else if s = 3 then withinB n 0 512 else if s = 4 then withinB n 0 15
  else if s = 5 then withinB n 1 16 else if s = 6 then withinB f 1 16 && withinB n 0 ((2 : Int) ^ f.toNat - 1) else n == 0
/-- May an instruction be? -/
def insOk (i : Ins) : Bool :=
  isOp i.1 && fitsB (formOf i.1).2.1 i.2.1 0 && fitsB (formOf i.1).2.2.1 i.2.2.1 0 && fitsB (formOf i.1).2.2.2 i.2.2.2 i.2.2.1
/-- How many numbers a kind has. -/
def operands (op : Int) : Nat :=
  (if (formOf op).2.1 = 0 then 0 else 1) + (if (formOf op).2.2.1 = 0 then 0 else 1) + (if (formOf op).2.2.2 = 0 then 0 else 1)
/-- The k-th name. -/
def nmAt (k : Nat) : Bs := (formT.getD k ([], 0, 0, 0)).1
/-- The kind of a name: the first from 1 on. -/
def byName (s : Bs) : Int × Bool := match (List.range 20).find? (fun j => nmAt (j + 1) == s) with
  | some j => ((j : Int) + 1, true)
  | none => (0, false)
theorem byName_hit (s : Bs) (k : Nat) (h0 : 0 < k) (h : k ≤ 20) (hm : ∀ j, 1 ≤ j → j < k → nmAt j ≠ s) (hk : nmAt k = s) : byName s = ((k : Int), true) := by
  have : (List.range 20).find? (fun j => nmAt (j + 1) == s) = some (k - 1) := by
    rw [List.find?_eq_some_iff_append]
    refine ⟨by simp only [beq_iff_eq]; rw [show k - 1 + 1 = k by omega]; exact hk, List.range (k - 1), (List.range (20 - k)).map (· + k), ?_, ?_⟩
    · apply List.ext_getElem
      · simp; omega
      · intro i h1 h2
        simp only [List.getElem_range]
        rw [List.getElem_append]
        split
        · simp
        · rename_i h3
          simp at h3
          rw [List.getElem_cons]
          split
          · rename_i h4; simp at h4; omega
          · rename_i h4; simp at h4 ⊢; omega
    · intro j hj
      simp at hj
      simp only [Bool.not_eq_true', beq_eq_false_iff_ne]
      exact hm (j + 1) (by omega) (by omega)
  unfold byName
  rw [this]
  simp; omega
theorem byName_miss (s : Bs) (hm : ∀ j, 1 ≤ j → j ≤ 20 → nmAt j ≠ s) : byName s = (0, false) := by
  have : (List.range 20).find? (fun j => nmAt (j + 1) == s) = none := by
    rw [List.find?_eq_none]
    intro j hj
    simp at hj
    simp only [beq_iff_eq]
    exact hm (j + 1) (by omega) (by omega)
  unfold byName
  rw [this]
end Go.Proofs.YtcamimfepcoggaaDoor
