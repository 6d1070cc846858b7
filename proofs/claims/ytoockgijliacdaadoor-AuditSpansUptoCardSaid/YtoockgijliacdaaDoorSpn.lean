/- When a peer was up: plain words; what a fact does. -/
import Derived.Test.YtoockgijliacdaaDoorFac
import Derived.Test.YtoockgijliacdaaDoorAlt
namespace Go.Proofs.YtoockgijliacdaaDoor
open Go.RowKit

def risesB (f : Fct) : Bool := (f.kind == 1) && (f.frm != 5) && (f.to == 5)
def fallsB (f : Fct) : Bool := (f.kind == 1) && (f.frm == 5) && (f.to != 5)
def setLast : List (Int × Int × Int) → Int → List (Int × Int × Int)
  | [], _ => []
  | [x], z => [(x.1, x.2.1, z)]
  | x :: y :: l, z => x :: setLast (y :: l) z
theorem setLast_snoc (l : List (Int × Int × Int)) (a b c z : Int) : setLast (l ++ [(a, b, c)]) z = l ++ [(a, b, z)] := by
  induction l with
  | nil => rfl
  | cons x l ih =>
    cases l with
    | nil => rfl
    | cons y l => exact congrArg (x :: ·) ih
/-- One fact more; p: the peer. -/
def spStep (p : Int) (s : List (Int × Int × Int) × Bool) (f : Fct) : List (Int × Int × Int) × Bool :=
  if f.peer ≠ p then s
  else if s.2 = false ∧ risesB f = true then (s.1 ++ [(f.id, f.step, -1)], true)
  else if s.2 = true ∧ fallsB f = true then (setLast s.1 f.step, false)
  else s
def spanS (p : Int) (fs : List Fct) : List (Int × Int × Int) × Bool := fs.foldl (spStep p) ([], false)
theorem spanS_snoc (p : Int) (fs : List Fct) (f : Fct) : spanS p (fs ++ [f]) = spStep p (spanS p fs) f := by simp [spanS]
/-- Is somebody up, there is a span. -/
theorem spanS_up (p : Int) (fs : List Fct) : (spanS p fs).2 = true → (spanS p fs).1 ≠ [] := by
  suffices h : ∀ (fs : List Fct) (s : List (Int × Int × Int) × Bool), (s.2 = true → s.1 ≠ []) → ((fs.foldl (spStep p) s).2 = true → (fs.foldl (spStep p) s).1 ≠ []) from h fs ([], false) (fun h => by cases h)
  intro fs
  induction fs with
  | nil => exact fun s h => h
  | cons f fs ih =>
    intro s h
    refine ih _ ?_
    unfold spStep
    split
    · exact h
    · split
      · intro _; simp
      · split
        · intro h; cases h
        · exact h
theorem spanS_len (p : Int) (fs : List Fct) : (spanS p fs).1.length ≤ fs.length := by
  suffices h : ∀ (fs : List Fct) (s : List (Int × Int × Int) × Bool), (fs.foldl (spStep p) s).1.length ≤ s.1.length + fs.length from (by have := h fs ([], false); unfold spanS; simpa using this)
  intro fs
  induction fs with
  | nil => exact fun s => Nat.le_refl _
  | cons f fs ih =>
    intro s
    have h1 := ih (spStep p s f)
    have h2 : (spStep p s f).1.length ≤ s.1.length + 1 := by
      unfold spStep
      split
      · omega
      · split
        · simp
        · split
          · have hs : ∀ (l : List (Int × Int × Int)) z, (setLast l z).length = l.length := by
              intro l z
              induction l with
              | nil => rfl
              | cons x l ih =>
                cases l with
                | nil => rfl
                | cons y l => simp only [setLast, List.length_cons] at ih ⊢; omega
            show (setLast s.1 f.step).length ≤ _
            rw [hs]; omega
          · omega
    simp only [List.foldl_cons, List.length_cons]
    omega
def spanC (l : List (Int × Int × Int)) : List Value := l.flatMap fun x => [.int .u32 x.1, .int .i64 x.2.1, .int .i64 x.2.2]
theorem spanC_snoc (l : List (Int × Int × Int)) (a b c : Int) : spanC (l ++ [(a, b, c)]) = spanC l ++ [.int .u32 a, .int .i64 b, .int .i64 c] := by simp [spanC]
theorem spanC_len (l : List (Int × Int × Int)) : (spanC l).length = l.length * 3 := by
  induction l with
  | nil => rfl
  | cons x l ih => simp only [spanC, List.flatMap_cons, List.length_append, List.length_cons, List.length_nil] at ih ⊢; omega

/-- What a fact does: 1 it rises, 2 it falls. -/
def doesV (f : Fct) : Int := if risesB f = true then 1 else if fallsB f = true then 2 else if f.kind = 1 ∧ f.frm = 5 ∧ f.to = 5 ∧ f.ev = 13 then 3 else if f.kind = 3 ∧ 0 ≤ f.peer then 4 else if f.kind = 4 then 5 else 0

structure FA (cs : Array Value) (f : Fct) : Prop where
  eq : cs = f.cells.toArray
theorem FA.size {cs : Array Value} {f : Fct} (h : FA cs f) : cs.size = 28 := by rw [h.eq]; rfl

set_option maxRecDepth 100000 in
set_option maxHeartbeats 1000000 in
theorem rises_any (cs : Array Value) (f : Fct) (h : FA cs f) (w : World) :
    Calls Tryd.prog 49 #[.agg cs] w fun e w' => e = .returned (.bool (risesB f)) ∧ Fr No w w' := by
  have F := Blk.new w 102 cs
  have x1 : (w.alloc (.cells cs 102)).cell? ⟨w.heap.size, 1, none⟩ = some (.int .i64 f.kind) := F.cell_ 1 (by rw [h.eq]; rfl)
  have x5 : (w.alloc (.cells cs 102)).cell? ⟨w.heap.size, 5, none⟩ = some (.int .i64 f.frm) := F.cell_ 5 (by rw [h.eq]; rfl)
  have x6 : (w.alloc (.cells cs 102)).cell? ⟨w.heap.size, 6, none⟩ = some (.int .i64 f.to) := F.cell_ 6 (by rw [h.eq]; rfl)
  have FR : Hid (Fr No w (w.alloc (.cells cs 102))) := Lib.hid ((Fr.refl No w).alloc _)
  obtain ⟨b1, h1⟩ : ∃ b, (f.kind == 1) = b := ⟨_, rfl⟩
  obtain ⟨b2, h2⟩ : ∃ b, (f.frm == 5) = b := ⟨_, rfl⟩
  obtain ⟨b3, h3⟩ : ∃ b, (f.to == 5) = b := ⟨_, rfl⟩
  have h2' : (f.frm != 5) = !b2 := by rw [← h2]; rfl
  have R : Hid (risesB f = (b1 && !b2 && b3)) := Lib.hid (by unfold risesB; rw [h1, h2', h3])
  clear F h
  cases b1 <;> cases b2 <;> cases b3
  all_goals go_enter Tryd.func49, Tryd.ntmps49
  all_goals go_wp2
  all_goals go_ret
  all_goals exact ⟨by rw [R.out]; rfl, FR.out⟩
set_option maxRecDepth 100000 in
set_option maxHeartbeats 1000000 in
theorem falls_any (cs : Array Value) (f : Fct) (h : FA cs f) (w : World) :
    Calls Tryd.prog 50 #[.agg cs] w fun e w' => e = .returned (.bool (fallsB f)) ∧ Fr No w w' := by
  have F := Blk.new w 102 cs
  have x1 : (w.alloc (.cells cs 102)).cell? ⟨w.heap.size, 1, none⟩ = some (.int .i64 f.kind) := F.cell_ 1 (by rw [h.eq]; rfl)
  have x5 : (w.alloc (.cells cs 102)).cell? ⟨w.heap.size, 5, none⟩ = some (.int .i64 f.frm) := F.cell_ 5 (by rw [h.eq]; rfl)
  have x6 : (w.alloc (.cells cs 102)).cell? ⟨w.heap.size, 6, none⟩ = some (.int .i64 f.to) := F.cell_ 6 (by rw [h.eq]; rfl)
  have FR : Hid (Fr No w (w.alloc (.cells cs 102))) := Lib.hid ((Fr.refl No w).alloc _)
  obtain ⟨b1, h1⟩ : ∃ b, (f.kind == 1) = b := ⟨_, rfl⟩
  obtain ⟨b2, h2⟩ : ∃ b, (f.frm == 5) = b := ⟨_, rfl⟩
  obtain ⟨b3, h3⟩ : ∃ b, (f.to == 5) = b := ⟨_, rfl⟩
  have h3' : (f.to != 5) = !b3 := by rw [← h3]; rfl
  have R : Hid (fallsB f = (b1 && b2 && !b3)) := Lib.hid (by unfold fallsB; rw [h1, h2, h3'])
  clear F h
  cases b1 <;> cases b2 <;> cases b3
  all_goals go_enter Tryd.func50, Tryd.ntmps50
  all_goals go_wp2
  all_goals go_ret
  all_goals exact ⟨by rw [R.out]; rfl, FR.out⟩

end Go.Proofs.YtoockgijliacdaaDoor
