/- Plain specifications, without a program: numbers in decimal digits. -/
namespace Go.Proofs.YtoockgijliacdaaDoor

/-- A text of bytes. -/
def str (l : List UInt8) : ByteArray := ⟨l.toArray⟩
theorem str_data (l : List UInt8) : (str l).data.toList = l := by simp [str]
theorem str_of (s : ByteArray) : str s.data.toList = s := by simp [str]
theorem str_size (l : List UInt8) : (str l).size = l.length := by simp [str, ByteArray.size]
theorem str_append (a b : List UInt8) : str a ++ str b = str (a ++ b) := by
  apply ByteArray.ext; simp [str]
theorem size_list (s : ByteArray) : s.data.toList.length = s.size := Array.length_toList
theorem str_inj {a b : List UInt8} (h : str a = str b) : a = b := by
  have := congrArg (fun s : ByteArray => s.data.toList) h
  simpa [str] using this

/-- A digit's sign. -/
def dg (d : Nat) : UInt8 := UInt8.ofNat (48 + d)
/-- A number's decimal digits. -/
def decF : Nat → Nat → List UInt8
  | 0, _ => []
  | k + 1, n => if n < 10 then [dg n] else decF k (n / 10) ++ [dg (n % 10)]
def dec (n : Nat) : List UInt8 := decF (n + 1) n
theorem decF_eq : ∀ k k' n, n < k → n < k' → decF k n = decF k' n
  | 0, _, _, h, _ => absurd h (by omega)
  | _, 0, _, _, h => absurd h (by omega)
  | k + 1, k' + 1, n, h, h' => by
    simp only [decF]
    by_cases h1 : n < 10
    · rw [if_pos h1, if_pos h1]
    · rw [if_neg h1, if_neg h1, decF_eq k k' (n / 10) (by omega) (by omega)]
theorem dec_lt {n : Nat} (h : n < 10) : dec n = [dg n] := by simp [dec, decF, h]
theorem dec_ge {n : Nat} (h : 10 ≤ n) : dec n = dec (n / 10) ++ [dg (n % 10)] := by
  unfold dec
  rw [show decF (n + 1) n = decF n (n / 10) ++ [dg (n % 10)] by simp only [decF]; rw [if_neg (by omega)]]
  rw [decF_eq n (n / 10 + 1) (n / 10) (by omega) (by omega)]
theorem dec_ne (n : Nat) : dec n ≠ [] := by
  by_cases h : n < 10
  · rw [dec_lt h]; simp
  · rw [dec_ge (by omega)]; simp

def itoa (n : Int) : List UInt8 := if n < 0 then 45 :: dec n.natAbs else dec n.natAbs

/-- What digits say. -/
def dv (s : List UInt8) : Nat := s.foldl (fun n c => 10 * n + (c.toNat - 48)) 0
theorem dv_snoc (s : List UInt8) (c : UInt8) : dv (s ++ [c]) = 10 * dv s + (c.toNat - 48) := by simp [dv]

theorem digit_nat {d : Nat} (h : d < 10) : (dg d).toNat = 48 + d := by
  unfold dg; rw [UInt8.toNat_ofNat']; omega

theorem dv_dec (n : Nat) : dv (dec n) = n := by
  induction n using Nat.strongRecOn with
  | ind n ih =>
    by_cases h : n < 10
    · rw [dec_lt h]; simp only [dv, List.foldl_cons, List.foldl_nil]; rw [digit_nat h]; omega
    · rw [dec_ge (by omega), dv_snoc, ih _ (by omega), digit_nat (by omega)]; omega

/-- Every sign of a number is a digit. -/
theorem dec_digits (n : Nat) : ∀ c ∈ dec n, 48 ≤ c.toNat ∧ c.toNat ≤ 57 := by
  induction n using Nat.strongRecOn with
  | ind n ih =>
    intro c hc
    by_cases h : n < 10
    · rw [dec_lt h] at hc; simp only [List.mem_singleton] at hc; subst hc; rw [digit_nat h]; omega
    · rw [dec_ge (by omega), List.mem_append] at hc
      rcases hc with hc | hc
      · exact ih _ (by omega) c hc
      · simp only [List.mem_singleton] at hc; subst hc; rw [digit_nat (by omega)]; omega

theorem dec_length (n k : Nat) (h : n < 10 ^ (k + 1)) : (dec n).length ≤ k + 1 := by
  induction k generalizing n with
  | zero => rw [dec_lt (by simpa using h)]; simp
  | succ k ih =>
    by_cases h1 : n < 10
    · rw [dec_lt h1]; simp
    · rw [dec_ge (by omega), List.length_append]
      have := ih (n / 10) (by rw [Nat.pow_succ] at h; omega)
      simp; omega

theorem dv_foldl (b : List UInt8) : ∀ n : Nat, n ≤ b.foldl (fun n c => 10 * n + (c.toNat - 48)) n := by
  induction b with
  | nil => intro n; exact Nat.le_refl n
  | cons c b ih =>
    intro n
    have h := ih (10 * n + (c.toNat - 48))
    simp only [List.foldl_cons]
    omega
theorem dv_append (a b : List UInt8) : dv a ≤ dv (a ++ b) := by
  unfold dv; rw [List.foldl_append]; exact dv_foldl b _
theorem dv_take (s : List UInt8) (k : Nat) : dv (s.take k) ≤ dv s := by
  have := dv_append (s.take k) (s.drop k)
  rwa [List.take_append_drop] at this

/-- The number of decimal digits: of at most four bytes, without a 0 ahead. -/
def octInt (s : List UInt8) : Option Nat := if dv s ≤ 4294967295 ∧ dec (dv s) = s then some (dv s) else none
theorem octInt_some {s : List UInt8} {n : Nat} : octInt s = some n ↔ n ≤ 4294967295 ∧ dec n = s := by
  unfold octInt
  constructor
  · intro h
    split at h
    · rename_i h1; injection h with h; subst h; exact h1
    · cases h
  · rintro ⟨h1, rfl⟩
    rw [dv_dec, if_pos ⟨h1, rfl⟩]
theorem octInt_none {s : List UInt8} : octInt s = none ↔ ∀ n, n ≤ 4294967295 → dec n ≠ s := by
  constructor
  · intro h n hn e
    have := (octInt_some (s := s) (n := n)).2 ⟨hn, e⟩
    rw [h] at this; cases this
  · intro h
    cases hc : octInt s with
    | none => rfl
    | some n => exact absurd (octInt_some.1 hc).2 (h n (octInt_some.1 hc).1)
/-- As Go tells it: the number, or 0, and whether it is one. -/
def intPair (s : List UInt8) : Int × Bool := match octInt s with | some n => ((n : Int), true) | none => (0, false)
theorem intPair_some {s : List UInt8} {n : Nat} (h : octInt s = some n) : intPair s = ((n : Int), true) := by simp [intPair, h]
theorem intPair_none {s : List UInt8} (h : octInt s = none) : intPair s = (0, false) := by simp [intPair, h]
theorem octInt_dec {n : Nat} (h : n ≤ 4294967295) : octInt (dec n) = some n := octInt_some.2 ⟨h, rfl⟩
/-- A number's text is no longer than 20 bytes. -/
theorem dec_short {n : Nat} (h : n < 10 ^ 19) : (dec n).length ≤ 19 := dec_length n 18 h
theorem itoa_short {n : Int} (h : -9223372036854775808 ≤ n ∧ n ≤ 9223372036854775807) : (itoa n).length ≤ 20 := by
  unfold itoa
  have := dec_short (n := n.natAbs) (by omega)
  split <;> simp <;> omega
theorem intPair_fail {s : List UInt8} (h : intPair s = (0, false)) : (intPair s).1 = 0 ∧ (intPair s).2 = false := by rw [h]; exact ⟨rfl, rfl⟩
theorem intPair_bad {s : List UInt8} {c : UInt8} (hc : c ∈ s) (h : ¬ (48 ≤ c.toNat ∧ c.toNat ≤ 57)) : intPair s = (0, false) :=
  intPair_none (octInt_none.2 fun n _ e => h (dec_digits n c (e ▸ hc)))
theorem intPair_big {s : List UInt8} {k : Nat} (h : 4294967295 < dv (s.take k)) : intPair s = (0, false) :=
  intPair_none (octInt_none.2 fun n hn e => by
    have := dv_take s k
    rw [← e] at this h
    rw [dv_dec] at this
    omega)
theorem intPair_nil : intPair [] = (0, false) := intPair_none (octInt_none.2 fun n _ e => dec_ne n e)
theorem intPair_ne {s : List UInt8} (h : dec (dv s) ≠ s) : intPair s = (0, false) :=
  intPair_none (octInt_none.2 fun n _ e => h (by rw [← e, dv_dec]))
theorem intPair_eq {s : List UInt8} (h : dec (dv s) = s) (hn : dv s ≤ 4294967295) : intPair s = ((dv s : Int), true) :=
  intPair_some (octInt_some.2 ⟨hn, h⟩)
theorem dv_take_succ {s : List UInt8} {k : Nat} (h : k < s.length) : dv (s.take (k + 1)) = 10 * dv (s.take k) + (s[k].toNat - 48) := by
  rw [List.take_succ_eq_append_getElem h, dv_snoc]
example : octInt [52, 50] = some 42 := by decide +kernel

end Go.Proofs.YtoockgijliacdaaDoor
