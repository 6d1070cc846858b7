/- Plain words: the replies in bytes that a client was told. -/
import Derived.Test.YtoockgijliacdaaDoorSpec
namespace Go.Proofs.YtoockgijliacdaaDoor

/-- Pieces between blanks; never none. -/
def splitB : List UInt8 → List UInt8 → List (List UInt8)
  | acc, [] => [acc]
  | acc, c :: l => if c = 32 then acc :: splitB [] l else splitB (acc ++ [c]) l
theorem splitB_none (acc l : List UInt8) (h : (32 : UInt8) ∉ l) : splitB acc l = [acc ++ l] := by
  induction l generalizing acc with
  | nil => simp [splitB]
  | cons c l ih =>
    simp at h
    unfold splitB
    rw [if_neg (fun e => h.1 e.symm), ih _ h.2]
    simp
theorem splitB_cut (acc l r : List UInt8) (h : (32 : UInt8) ∉ l) : splitB acc (l ++ 32 :: r) = (acc ++ l) :: splitB [] r := by
  induction l generalizing acc with
  | nil => simp [splitB]
  | cons c l ih =>
    simp at h
    rw [List.cons_append]
    conv => lhs; unfold splitB
    rw [if_neg (fun e => h.1 e.symm), ih _ h.2]
    simp
theorem splitB_ne (acc l : List UInt8) : splitB acc l ≠ [] := by
  induction l generalizing acc with
  | nil => simp [splitB]
  | cons c l ih => unfold splitB; split; simp; exact ih _

/-- A reply, but its lines. -/
structure Rpl where
  kind : Nat
  num : Nat
  word : List UInt8
  a : Nat
  b : Nat
  c : Nat
deriving DecidableEq

def stat3 (p q r : Option Nat) : Option Rpl :=
  match p, q, r with
  | some a, some b, some c => some ⟨5, 0, [], a, b, c⟩
  | _, _, _ => none
/-- The reply that pieces end. -/
def endP : List (List UInt8) → Option Rpl
  | [x] => if x = [69, 78, 68] then some ⟨1, 0, [], 0, 0, 0⟩ else if x = [79, 75] then some ⟨3, 0, [], 0, 0, 0⟩ else none
  | [x, y] => if x = [77, 79, 82, 69] then (octInt y).map (fun n => ⟨2, n, [], 0, 0, 0⟩) else if x = [69, 82, 82] then (if y = [] then none else some ⟨4, 0, y, 0, 0, 0⟩) else none
  | [x, p, q, r] => if x = [83, 84, 65, 84] then stat3 (octInt p) (octInt q) (octInt r) else none
  | _ => none
def endS (l : List UInt8) : Option Rpl := endP (splitB [] l)

/-- Lines that have an end; acc is ahead. -/
def linesB : List UInt8 → List UInt8 → List (List UInt8)
  | _, [] => []
  | acc, c :: l => if c = 10 then acc :: linesB [] l else linesB (acc ++ [c]) l
/-- What is behind the last one. -/
def restB : List UInt8 → List UInt8 → List UInt8
  | acc, [] => acc
  | acc, c :: l => if c = 10 then restB [] l else restB (acc ++ [c]) l
theorem linesB_none (acc l : List UInt8) (h : (10 : UInt8) ∉ l) : linesB acc l = [] := by
  induction l generalizing acc with
  | nil => rfl
  | cons c l ih => simp at h; unfold linesB; rw [if_neg (fun e => h.1 e.symm)]; exact ih _ h.2
theorem linesB_cut (acc l r : List UInt8) (h : (10 : UInt8) ∉ l) : linesB acc (l ++ 10 :: r) = (acc ++ l) :: linesB [] r := by
  induction l generalizing acc with
  | nil => simp [linesB]
  | cons c l ih =>
    simp at h
    rw [List.cons_append]
    conv => lhs; unfold linesB
    rw [if_neg (fun e => h.1 e.symm), ih _ h.2]
    simp
theorem linesB_snoc (acc l : List UInt8) (c : UInt8) : linesB acc (l ++ [c]) = if c = 10 then linesB acc l ++ [restB acc l] else linesB acc l := by
  induction l generalizing acc with
  | nil => simp [linesB, restB]
  | cons d l ih =>
    rw [List.cons_append]
    conv => lhs; unfold linesB
    conv => rhs; unfold linesB restB
    by_cases h : d = 10
    · rw [if_pos h, if_pos h, if_pos h, ih]
      split <;> simp
    · rw [if_neg h, if_neg h, if_neg h, ih]
theorem restB_snoc (acc l : List UInt8) (c : UInt8) : restB acc (l ++ [c]) = if c = 10 then [] else restB acc l ++ [c] := by
  induction l generalizing acc with
  | nil => simp [restB]
  | cons d l ih =>
    rw [List.cons_append]
    conv => lhs; unfold restB
    conv => rhs; unfold restB
    by_cases h : d = 10
    · rw [if_pos h, if_pos h, ih]
    · rw [if_neg h, if_neg h, ih]
theorem linesB_cons (acc : List UInt8) (c : UInt8) (l : List UInt8) : linesB acc (c :: l) = if c = 10 then acc :: linesB [] l else linesB (acc ++ [c]) l := rfl
theorem restB_cons (acc : List UInt8) (c : UInt8) (l : List UInt8) : restB acc (c :: l) = if c = 10 then restB [] l else restB (acc ++ [c]) l := rfl
theorem linesB_append (acc l r : List UInt8) : linesB acc (l ++ r) = linesB acc l ++ linesB (restB acc l) r := by
  induction l generalizing acc with
  | nil => rfl
  | cons d l ih =>
    rw [List.cons_append, linesB_cons, linesB_cons, restB_cons]
    by_cases h : d = 10
    · rw [if_pos h, if_pos h, if_pos h, ih]; rfl
    · rw [if_neg h, if_neg h, if_neg h, ih]
/-- How many bytes lines have, with their ends. -/
def lenL (l : List (List UInt8)) : Nat := (l.map fun x => x.length + 1).sum
theorem lenL_lines (acc l : List UInt8) : lenL (linesB acc l) + (restB acc l).length = acc.length + l.length := by
  induction l generalizing acc with
  | nil => simp [linesB, restB, lenL]
  | cons d l ih =>
    unfold linesB restB
    by_cases h : d = 10
    · rw [if_pos h, if_pos h]
      have := ih []
      simp only [lenL, List.map_cons, List.sum_cons, List.length_cons, List.length_nil] at this ⊢
      omega
    · rw [if_neg h, if_neg h]
      have := ih (acc ++ [d])
      simp only [List.length_append, List.length_cons, List.length_nil] at this ⊢
      omega
theorem lenL_append (a b : List (List UInt8)) : lenL (a ++ b) = lenL a + lenL b := by simp [lenL]

/-- What is known behind some lines. -/
structure Aus where
  out : List (Rpl × List (List UInt8))
  wait : List (List UInt8)
  at_ : Nat
  end_ : Nat
def Aus.step (x : Aus) (s : List UInt8) : Aus :=
  match endS s with
  | some r => ⟨x.out ++ [(r, x.wait)], [], x.at_ + s.length + 1, x.at_ + s.length + 1⟩
  | none => ⟨x.out, x.wait ++ [s], x.at_ + s.length + 1, x.end_⟩
def Aus.run (x : Aus) (l : List (List UInt8)) : Aus := l.foldl Aus.step x
def aus0 : Aus := ⟨[], [], 0, 0⟩
def audS (b : List UInt8) : Aus := aus0.run (linesB [] b)
theorem Aus.step_some {x : Aus} {s : List UInt8} {r : Rpl} (h : endS s = some r) : x.step s = ⟨x.out ++ [(r, x.wait)], [], x.at_ + s.length + 1, x.at_ + s.length + 1⟩ := by unfold Aus.step; rw [h]
theorem Aus.step_none {x : Aus} {s : List UInt8} (h : endS s = none) : x.step s = ⟨x.out, x.wait ++ [s], x.at_ + s.length + 1, x.end_⟩ := by unfold Aus.step; rw [h]
theorem Aus.step_at (x : Aus) (s : List UInt8) : (x.step s).at_ = x.at_ + s.length + 1 := by unfold Aus.step; split <;> rfl
theorem Aus.run_at (l : List (List UInt8)) (x : Aus) : (x.run l).at_ = x.at_ + lenL l := by
  induction l generalizing x with
  | nil => rfl
  | cons s l ih =>
    show ((x.step s).run l).at_ = _
    rw [ih, Aus.step_at]
    simp [lenL]; omega
/-- The end is nowhere behind; is it here, then nothing waits. -/
def Aus.Ok (x : Aus) : Prop := x.end_ ≤ x.at_ ∧ (x.end_ = x.at_ → x.wait = [])
theorem Aus.Ok.step {x : Aus} (h : x.Ok) (s : List UInt8) : (x.step s).Ok := by
  unfold Aus.step
  split
  · exact ⟨Nat.le_refl _, fun _ => rfl⟩
  · exact ⟨by have := h.1; show x.end_ ≤ x.at_ + s.length + 1; omega, fun e => by have := h.1; have e : x.end_ = x.at_ + s.length + 1 := e; omega⟩
theorem Aus.Ok.run {l : List (List UInt8)} : ∀ {x : Aus}, x.Ok → (x.run l).Ok := by
  induction l with
  | nil => exact fun h => h
  | cons s l ih => exact fun h => ih (h.step s)
theorem aus0_ok : aus0.Ok := ⟨Nat.le_refl _, fun _ => rfl⟩
theorem audS_end (b : List UInt8) : (audS b).end_ ≤ b.length := by
  have h := (aus0_ok.run (l := linesB [] b)).1
  have h2 := Aus.run_at (linesB [] b) aus0
  have h3 := lenL_lines [] b
  unfold audS
  rw [h2] at h
  simp [aus0] at h h3 ⊢
  omega
/-- Beginning elsewhere. -/
def Aus.plus (p : List (Rpl × List (List UInt8))) (k : Nat) (x : Aus) : Aus := ⟨p ++ x.out, x.wait, k + x.at_, k + x.end_⟩
theorem Aus.plus_step (p : List (Rpl × List (List UInt8))) (k : Nat) (x : Aus) (s : List UInt8) : (Aus.plus p k x).step s = Aus.plus p k (x.step s) := by
  unfold Aus.step
  split
  · simp [Aus.plus, Nat.add_assoc]
  · simp [Aus.plus, Nat.add_assoc]
theorem Aus.plus_run (p : List (Rpl × List (List UInt8))) (k : Nat) (l : List (List UInt8)) (x : Aus) : (Aus.plus p k x).run l = Aus.plus p k (x.run l) := by
  induction l generalizing x with
  | nil => rfl
  | cons s l ih => show ((Aus.plus p k x).step s).run l = _; rw [Aus.plus_step, ih]; rfl
/-- Replies of two, of which the first one ends with a reply, are those of both together. -/
theorem audS_join (a b : List UInt8) (h : (audS a).end_ = a.length) : (audS (a ++ b)).out = (audS a).out ++ (audS b).out ∧ (audS (a ++ b)).end_ = a.length + (audS b).end_ := by
  have ok := aus0_ok.run (l := linesB [] a)
  have h2 := Aus.run_at (linesB [] a) aus0
  have h3 := lenL_lines [] a
  have hat : (audS a).at_ = lenL (linesB [] a) := by unfold audS; rw [h2]; simp [aus0]
  have hle : (audS a).end_ ≤ (audS a).at_ := ok.1
  have hr : restB [] a = [] := List.eq_nil_of_length_eq_zero (by simp at h3; omega)
  have hw : (audS a).wait = [] := ok.2 (show (audS a).end_ = (audS a).at_ by simp at h3; omega)
  have hx : audS a = Aus.plus (audS a).out a.length aus0 := by
    have e : audS a = ⟨(audS a).out, (audS a).wait, (audS a).at_, (audS a).end_⟩ := rfl
    rw [e, hw, h, show (audS a).at_ = a.length by simp at h3; omega]
    simp [Aus.plus, aus0]
  have key : audS (a ++ b) = Aus.plus (audS a).out a.length (audS b) := by
    show aus0.run (linesB [] (a ++ b)) = _
    rw [linesB_append, hr]
    unfold Aus.run
    rw [List.foldl_append]
    show (audS a).run (linesB [] b) = _
    conv => lhs; rw [hx]
    rw [Aus.plus_run]
    rfl
  rw [key]
  exact ⟨rfl, rfl⟩
theorem Aus.small_step {x : Aus} (s : List UInt8) (h : x.wait.length ≤ x.at_ ∧ x.out.length ≤ x.at_) : (x.step s).wait.length ≤ (x.step s).at_ ∧ (x.step s).out.length ≤ (x.step s).at_ := by
  unfold Aus.step
  split
  · simp; omega
  · simp; omega
theorem Aus.small {l : List (List UInt8)} : ∀ {x : Aus}, (x.wait.length ≤ x.at_ ∧ x.out.length ≤ x.at_) → (x.run l).wait.length ≤ (x.run l).at_ ∧ (x.run l).out.length ≤ (x.run l).at_ := by
  induction l with
  | nil => exact fun h => h
  | cons s l ih => exact fun h => ih (Aus.small_step s h)
theorem audS_snoc (l : List UInt8) (c : UInt8) : audS (l ++ [c]) = if c = 10 then (audS l).step (restB [] l) else audS l := by
  unfold audS
  rw [linesB_snoc]
  split
  · unfold Aus.run; rw [List.foldl_append]; rfl
  · rfl

end Go.Proofs.YtoockgijliacdaaDoor
