/- Cuts at one byte: the library's words in those of this seat. -/
import Derived.Test.YtoockgijliacdaaDoorAsp
import Derived.Lib.SplitLaws
namespace Go.Proofs.YtoockgijliacdaaDoor

theorem index_one (s : List UInt8) (c : UInt8) : Lib.index s [c] = Lib.indexByte s c := by
  induction s with
  | nil => rfl
  | cons b l ih =>
    have hp : ([c] : List UInt8).isPrefixOf (b :: l) = (b == c) := by
      simp [List.isPrefixOf]
      exact Bool.eq_iff_iff.2 ⟨fun h => by simpa using (by simpa using h : c = b).symm, fun h => by simpa using (by simpa using h : b = c).symm⟩
    rw [Lib.index, hp, ih, Lib.indexByte]
/-- A byte is nowhere, or somewhere first. -/
theorem byte_cases (s : List UInt8) (c : UInt8) : (Lib.indexByte s c = -1 ∧ c ∉ s) ∨ ∃ l r, s = l ++ c :: r ∧ c ∉ l ∧ Lib.indexByte s c = (l.length : Int) := by
  induction s with
  | nil => exact .inl ⟨rfl, by simp⟩
  | cons b t ih =>
    by_cases h : b = c
    · subst h
      exact .inr ⟨[], t, rfl, by simp, by simp [Lib.indexByte]⟩
    · have hb : (b == c) = false := by simpa using h
      rcases ih with ⟨h1, h2⟩ | ⟨l, r, h1, h2, h3⟩
      · refine .inl ⟨by simp [Lib.indexByte, hb, h1], by simp [h2]; exact fun e => h e.symm⟩
      · refine .inr ⟨b :: l, r, by rw [h1]; rfl, by simp [h2]; exact fun e => h e.symm, ?_⟩
        have : ¬ ((l.length : Int) = -1) := by omega
        simp [Lib.indexByte, hb, h3, this]
theorem cut_none {s : List UInt8} {c : UInt8} (h : c ∉ s) : Lib.cut s [c] = (s, [], false) := by
  rcases byte_cases s c with ⟨h1, _⟩ | ⟨l, r, h1, _, _⟩
  · unfold Lib.cut
    rw [index_one, h1]
    rfl
  · exact absurd (by rw [h1]; simp) h
theorem cut_some {l r : List UInt8} {c : UInt8} (h : c ∉ l) : Lib.cut (l ++ c :: r) [c] = (l, r, true) := by
  rcases byte_cases (l ++ c :: r) c with ⟨_, h2⟩ | ⟨l', r', h1, h2, h3⟩
  · exact absurd (by simp) h2
  · have e : l = l' := by
      clear h3
      induction l generalizing l' with
      | nil =>
        cases l' with
        | nil => rfl
        | cons x l' => simp at h1 h2; exact absurd h1.1 h2.1
      | cons x l ih =>
        cases l' with
        | nil => simp at h1 h; exact absurd h1.1.symm h.1
        | cons y l' =>
          simp at h1 h h2
          rw [h1.1, ih h.2 l' h1.2 h2.2]
    subst e
    unfold Lib.cut
    rw [index_one, h3]
    simp
theorem contains_one (s : List UInt8) (c : UInt8) : Lib.contains s [c] = decide (c ∈ s) := by
  unfold Lib.contains
  rw [index_one]
  rcases byte_cases s c with ⟨h1, h2⟩ | ⟨l, r, h1, h2, h3⟩
  · rw [h1]; simp [h2]
  · rw [h3]
    have : c ∈ s := by rw [h1]; simp
    simp [this]
theorem splitK_eq (c : UInt8) : ∀ (k : Nat) (s : List UInt8), s.count c ≤ k → c = 32 → Lib.splitK [c] 0 k s = splitB [] s
  | 0, s, h, e => by
    subst e
    have : (32 : UInt8) ∉ s := by
      intro hm
      have := List.count_pos_iff.2 hm
      omega
    rw [splitB_none _ _ this]
    rfl
  | k + 1, s, h, e => by
    subst e
    unfold Lib.splitK
    rw [index_one]
    rcases byte_cases s 32 with ⟨h1, h2⟩ | ⟨l, r, h1, h2, h3⟩
    · rw [h1, splitB_none _ _ h2]; rfl
    · rw [h3]
      have hn : ¬ ((l.length : Int) == -1) = true := by simp
      rw [if_neg hn]
      have e2 : s.drop (((l.length : Int)).toNat + [(32 : UInt8)].length) = r := by rw [h1]; simp
      have e1 : s.take (((l.length : Int)).toNat + 0) = l := by rw [h1]; simp
      rw [e1, e2, h1, splitB_cut _ _ _ h2, splitK_eq 32 k r ?_ rfl]
      · rfl
      · rw [h1] at h; simp at h; omega
theorem split_eq (s : ByteArray) : (Lib.splitB ⟨#[32]⟩ 0 (Lib.countB s ⟨#[32]⟩) s).map (·.data.toList) = splitB [] s.data.toList := by
  rw [Lib.splitB_data]
  refine splitK_eq 32 _ _ ?_ rfl
  show _ ≤ Lib.count s.data.toList [32]
  rw [Lib.count_one]
  exact Nat.le_refl _

/-! What the words of a line end. -/
theorem endS_one {s : List UInt8} (h : (32 : UInt8) ∉ s) : endS s = endP [s] := by unfold endS; rw [splitB_none _ _ h]; rfl
theorem endS_more {l r : List UInt8} (h : (32 : UInt8) ∉ l) : endS (l ++ 32 :: r) = endP (l :: splitB [] r) := by unfold endS; rw [splitB_cut _ _ _ h]; rfl
def wMORE : List UInt8 := [77, 79, 82, 69]
def wERR : List UInt8 := [69, 82, 82]
def wSTAT : List UInt8 := [83, 84, 65, 84]
theorem splitB_two {r : List UInt8} (h : (32 : UInt8) ∈ r) : ∃ x y l, splitB [] r = x :: y :: l := by
  rcases byte_cases r 32 with ⟨_, h2⟩ | ⟨l, t, h1, h2, _⟩
  · exact absurd h h2
  · rw [h1, splitB_cut _ _ _ h2]
    cases ht : splitB [] t with
    | nil => exact absurd ht (splitB_ne _ _)
    | cons y m => exact ⟨_, y, m, rfl⟩
theorem endP_more (r : List UInt8) : endP (wMORE :: splitB [] r) = (octInt r).map (fun n => ⟨2, n, [], 0, 0, 0⟩) := by
  by_cases h : (32 : UInt8) ∈ r
  · have ho : octInt r = none := octInt_none.2 fun n _ e => by
      have := dec_digits n 32 (e ▸ h)
      exact absurd this (by decide)
    obtain ⟨x, y, l, e⟩ := splitB_two h
    rw [e, ho]
    cases l with
    | nil => rfl
    | cons z l => cases l with
      | nil => rfl
      | cons _ _ => rfl
  · rw [splitB_none _ _ h]; rfl
theorem endP_err (r : List UInt8) : endP (wERR :: splitB [] r) = if r = [] ∨ (32 : UInt8) ∈ r then none else some ⟨4, 0, r, 0, 0, 0⟩ := by
  by_cases h : (32 : UInt8) ∈ r
  · rw [if_pos (Or.inr h)]
    obtain ⟨x, y, l, e⟩ := splitB_two h
    rw [e]
    cases l with
    | nil => rfl
    | cons z l => cases l with
      | nil => rfl
      | cons _ _ => rfl
  · rw [splitB_none _ _ h]
    by_cases hr : r = []
    · rw [if_pos (Or.inl hr)]; subst hr; rfl
    · rw [if_neg (by rintro (h1 | h1); exact hr h1; exact h h1)]
      show (if r = [] then none else _) = _
      rw [if_neg hr]
      rfl
theorem endP_stat (l : List (List UInt8)) (hne : l ≠ []) : endP (wSTAT :: l) = match l with | [p, q, r] => stat3 (octInt p) (octInt q) (octInt r) | _ => none := by
  cases l with
  | nil => exact absurd rfl hne
  | cons p l => cases l with
    | nil => rfl
    | cons q l => cases l with
      | nil => rfl
      | cons r l => cases l with
        | nil => rfl
        | cons _ _ => rfl
theorem endP_no (x : List UInt8) (l : List (List UInt8)) (hl : l ≠ []) (h1 : x ≠ wMORE) (h2 : x ≠ wERR) (h3 : x ≠ wSTAT) : endP (x :: l) = none := by
  cases l with
  | nil => exact absurd rfl hl
  | cons p l => cases l with
    | nil => show (if x = wMORE then _ else if x = wERR then _ else none) = _; rw [if_neg h1, if_neg h2]
    | cons q l => cases l with
      | nil => rfl
      | cons r l => cases l with
        | nil => show (if x = wSTAT then _ else none) = _; rw [if_neg h3]
        | cons _ _ => rfl

end Go.Proofs.YtoockgijliacdaaDoor
