/- Contract of the reference's end. -/
import Derived.Test.YtoockgijliacdaaDoorAwd
import Derived.Test.YtoockgijliacdaaDoorR1
namespace Go.Proofs.YtoockgijliacdaaDoor
open Go.RowKit

theorem set7_cell {w : World} {g b i : Nat} {u : Value} (hne : b ≠ g) (v0 v1 v2 v3 v4 v5 v6 : Value) (h : w.cell? ⟨b, i, none⟩ = some u) :
    (((((((w.setCell ⟨g, 0, none⟩ v0).setCell ⟨g, 1, none⟩ v1).setCell ⟨g, 2, none⟩ v2).setCell ⟨g, 3, none⟩ v3).setCell ⟨g, 4, none⟩ v4).setCell ⟨g, 5, none⟩ v5).setCell ⟨g, 6, none⟩ v6).cell? ⟨b, i, none⟩ = some u := by
  have k := (set7_fr w g v0 v1 v2 v3 v4 v5 v6).block b (block_lt_of_cell h) hne
  have e : (set7 w g v0 v1 v2 v3 v4 v5 v6).cell? ⟨b, i, none⟩ = w.cell? ⟨b, i, none⟩ := World.cell?_of_block k
  exact e.trans h
theorem slt_at {t : TypeId} {S : Nat → Prop} {w : World} {A : Option Addr} {xs : List Value} (h : SlT t S w A xs) (hn : xs ≠ []) : ∃ b o, A = some ⟨b, o, none⟩ ∧ S b ∧ ∀ j u, xs[j]? = some u → w.cell? ⟨b, o + j, none⟩ = some u := by
  obtain ⟨b, o, _, _, e, hs, _, hc⟩ := h hn
  exact ⟨b, o, e, hs, hc⟩

theorem int_pair {s : List UInt8} {a : Int} {b : Bool} (h : intPair s = (a, b)) : ∃ n : Nat, a = (n : Int) ∧ (b = true → octInt s = some n) ∧ (b = false → octInt s = none) := by
  unfold intPair at h
  cases ho : octInt s with
  | none => rw [ho] at h; simp at h; exact ⟨0, h.1.symm, fun e => (by rw [h.2] at e; cases e), fun _ => rfl⟩
  | some n => rw [ho] at h; simp at h; exact ⟨n, h.1.symm, fun _ => rfl, fun e => (by rw [h.2] at e; cases e)⟩

set_option maxRecDepth 100000 in
set_option maxHeartbeats 2000000 in
theorem end_any (l : List UInt8) (w : World) (hs : l.length ≤ 10000) :
    Calls Tryd.prog 44 #[.string (str l)] w (EndPost 108 l w) := by
  have F0 : Hid (Fr No w (w.alloc (.cells #[.int .i64 0, .slice none 0 0, .int .i64 0, .string { data := #[] }, .int .i64 0, .int .i64 0, .int .i64 0] 108))) := Lib.hid ((Fr.refl _ _).alloc _)
  have B0 := Lib.hid (Blk.new w 108 #[.int .i64 0, .slice none 0 0, .int .i64 0, .string { data := #[] }, .int .i64 0, .int .i64 0, .int .i64 0])
  have HS := Lib.hid hs
  clear hs
  go_enter Tryd.func44, Tryd.ntmps44
  go_wp2_with fail
  refine (words_any (str l) _ (by rw [str_size]; exact HS.out)).mono ?_
  rw [str_data]
  rintro e w1 ⟨A, c, rfl, hc1, hc2, hsl, f1⟩
  have F1 := Lib.hid (F0.out.trans f1)
  have B1 := Lib.hid (B0.out.keep f1 id)
  have ES : Hid (endS l = endP (splitB [] l)) := Lib.hid rfl
  have HP : Hid (∀ x ∈ splitB [] l, x.length ≤ 10000) := Lib.hid (fun x hx => by have := splitB_len [] l x hx; have := HS.out; simp at *; omega)
  have NE := splitB_ne [] l
  obtain ⟨P, hP⟩ : ∃ P, splitB [] l = P := ⟨_, rfl⟩
  rw [hP] at hc1 hsl ES HP NE ⊢
  obtain ⟨b, o, rfl, hbb, hcell⟩ := slt_at hsl (by simpa using NE)
  have HSL := Lib.hid hsl
  have hne : b ≠ w.heap.size := by simp at hbb; omega
  have HNE := Lib.hid hne
  clear f1 hP hsl F0 B0 hbb hne
  obtain ⟨⟨z0, z1, z2, z3, z4, z5, z6⟩, ⟨y0, y1, y2, y3, y4, y5, y6⟩⟩ := blk7 B1.out
  match P, NE with
  | [x], _ =>
    have c0 : w1.cell? ⟨b, o, none⟩ = some (.string (str x)) := hcell 0 (strV x) rfl
    have q1 := str_eq x [69, 78, 68]
    have q2 := str_eq x [79, 75]
    clear hcell
    by_cases e1 : x = [69, 78, 68]
    · rw [decide_eq_true e1] at q1
      have R : Hid (endS l = some ⟨1, 0, [], 0, 0, 0⟩) := Lib.hid (by rw [ES.out, e1]; rfl)
      clear q2 e1
      go_wp2
      refine bodyPost_ret (res_cell_tmp (ty := 108) rfl _ _ w.heap.size 108 _ _ rfl (set7_blk B1.out _ _ _ _ _ _ _) Tryd.underlying108 rfl (by kernel_rfl)) rfl ?_
      exact ⟨⟨1, 0, [], 0, 0, 0⟩, true, rfl, fun _ => R.out, fun h => (by cases h), set7_new F1.out _ _ _ _ _ _ _⟩
    · rw [decide_eq_false e1] at q1
      by_cases e2 : x = [79, 75]
      · rw [decide_eq_true e2] at q2
        have R : Hid (endS l = some ⟨3, 0, [], 0, 0, 0⟩) := Lib.hid (by rw [ES.out, e2]; rfl)
        clear e2 e1
        go_wp2
        refine bodyPost_ret (res_cell_tmp (ty := 108) rfl _ _ w.heap.size 108 _ _ rfl (set7_blk B1.out _ _ _ _ _ _ _) Tryd.underlying108 rfl (by kernel_rfl)) rfl ?_
        exact ⟨⟨3, 0, [], 0, 0, 0⟩, true, rfl, fun _ => R.out, fun h => (by cases h), set7_new F1.out _ _ _ _ _ _ _⟩
      · rw [decide_eq_false e2] at q2
        have R : Hid (endS l = none) := Lib.hid (by rw [ES.out]; show (if x = [69, 78, 68] then _ else if x = [79, 75] then _ else none) = _; rw [if_neg e1, if_neg e2])
        clear e2 e1
        go_wp2
        refine bodyPost_ret (res_cell_tmp (ty := 108) rfl _ _ w.heap.size 108 _ _ rfl (set7_blk B1.out _ _ _ _ _ _ _) Tryd.underlying108 rfl (by kernel_rfl)) rfl ?_
        exact ⟨⟨0, 0, [], 0, 0, 0⟩, false, rfl, fun h => (by cases h), fun _ => R.out, set7_new F1.out _ _ _ _ _ _ _⟩
  | [x, y], _ =>
    have c0 : w1.cell? ⟨b, o, none⟩ = some (.string (str x)) := hcell 0 (strV x) rfl
    have c1 : w1.cell? ⟨b, o + 1, none⟩ = some (.string (str y)) := hcell 1 (strV y) rfl
    have q1 := str_eq x [77, 79, 82, 69]
    have q2 := str_eq x [69, 82, 82]
    have HY : Hid (y.length ≤ 10000) := Lib.hid (HP.out y (by simp))
    clear hcell
    by_cases e1 : x = [77, 79, 82, 69]
    · rw [decide_eq_true e1] at q1
      have R : Hid (endS l = (octInt y).map (fun n => ⟨2, n, [], 0, 0, 0⟩)) := Lib.hid (by rw [ES.out, e1]; rfl)
      clear q2 e1
      go_wp2_with fail
      refine (r1Int_any (str y) _ (by unfold maxLen; rw [str_size]; have := HY.out; omega)).mono ?_
      rintro e w2 ⟨rfl, rfl⟩
      rw [str_data]
      cases ho : octInt y with
      | none =>
        rw [intPair_none ho]
        have R2 : Hid (endS l = none) := Lib.hid (by rw [R.out, ho]; rfl)
        clear ho R
        go_wp2
        refine bodyPost_ret (res_cell_tmp (ty := 108) rfl _ _ w.heap.size 108 _ _ rfl (set7_blk B1.out _ _ _ _ _ _ _) Tryd.underlying108 rfl (by kernel_rfl)) rfl ?_
        exact ⟨⟨2, 0, [], 0, 0, 0⟩, false, rfl, fun h => (by cases h), fun _ => R2.out, set7_new F1.out _ _ _ _ _ _ _⟩
      | some m =>
        rw [intPair_some ho]
        have R2 : Hid (endS l = some ⟨2, m, [], 0, 0, 0⟩) := Lib.hid (by rw [R.out, ho]; rfl)
        clear ho R
        go_wp2
        refine bodyPost_ret (res_cell_tmp (ty := 108) rfl _ _ w.heap.size 108 _ _ rfl (set7_blk B1.out _ _ _ _ _ _ _) Tryd.underlying108 rfl (by kernel_rfl)) rfl ?_
        exact ⟨⟨2, m, [], 0, 0, 0⟩, true, rfl, fun _ => R2.out, fun h => (by cases h), set7_new F1.out _ _ _ _ _ _ _⟩
    · rw [decide_eq_false e1] at q1
      by_cases e2 : x = [69, 82, 82]
      · rw [decide_eq_true e2] at q2
        have R : Hid (endS l = if y = [] then none else some ⟨4, 0, y, 0, 0, 0⟩) := Lib.hid (by rw [ES.out, e2]; rfl)
        have q4 := str_eq y []
        clear e1 e2
        by_cases e4 : y = []
        · rw [decide_eq_true e4] at q4
          have R2 : Hid (endS l = none) := Lib.hid (by rw [R.out, if_pos e4])
          clear e4 R
          have cs1 : (((((((w1.setCell ⟨w.heap.size, 0, none⟩ (.int .i64 4)).setCell ⟨w.heap.size, 1, none⟩ (.slice none 0 0)).setCell ⟨w.heap.size, 2, none⟩ (.int .i64 0)).setCell ⟨w.heap.size, 3, none⟩ (.string (str y))).setCell ⟨w.heap.size, 4, none⟩ (.int .i64 0)).setCell ⟨w.heap.size, 5, none⟩ (.int .i64 0)).setCell ⟨w.heap.size, 6, none⟩ (.int .i64 0)).cell? ⟨b, o + 1, none⟩ = some (.string (str y)) := set7_cell HNE.out _ _ _ _ _ _ _ c1
          go_wp2_with fail
          go_region
          go_wp2
          refine bodyPost_ret (res_cell_tmp (ty := 108) rfl _ _ w.heap.size 108 _ _ rfl (set7_blk B1.out _ _ _ _ _ _ _).drew Tryd.underlying108 rfl (by kernel_rfl)) rfl ?_
          exact ⟨⟨4, 0, y, 0, 0, 0⟩, false, rfl, fun h => (by cases h), fun _ => R2.out, (set7_new F1.out _ _ _ _ _ _ _).drew⟩
        · rw [decide_eq_false e4] at q4
          have R2 : Hid (endS l = some ⟨4, 0, y, 0, 0, 0⟩) := Lib.hid (by rw [R.out, if_neg e4])
          clear e4 R
          have cs1 : (((((((w1.setCell ⟨w.heap.size, 0, none⟩ (.int .i64 4)).setCell ⟨w.heap.size, 1, none⟩ (.slice none 0 0)).setCell ⟨w.heap.size, 2, none⟩ (.int .i64 0)).setCell ⟨w.heap.size, 3, none⟩ (.string (str y))).setCell ⟨w.heap.size, 4, none⟩ (.int .i64 0)).setCell ⟨w.heap.size, 5, none⟩ (.int .i64 0)).setCell ⟨w.heap.size, 6, none⟩ (.int .i64 0)).cell? ⟨b, o + 1, none⟩ = some (.string (str y)) := set7_cell HNE.out _ _ _ _ _ _ _ c1
          go_wp2_with fail
          go_region
          go_wp2
          refine bodyPost_ret (res_cell_tmp (ty := 108) rfl _ _ w.heap.size 108 _ _ rfl (set7_blk B1.out _ _ _ _ _ _ _).drew Tryd.underlying108 rfl (by kernel_rfl)) rfl ?_
          exact ⟨⟨4, 0, y, 0, 0, 0⟩, true, rfl, fun _ => R2.out, fun h => (by cases h), (set7_new F1.out _ _ _ _ _ _ _).drew⟩
      · rw [decide_eq_false e2] at q2
        have R : Hid (endS l = none) := Lib.hid (by rw [ES.out]; show (if x = [77, 79, 82, 69] then _ else if x = [69, 82, 82] then _ else none) = _; rw [if_neg e1, if_neg e2])
        clear e2 e1
        go_wp2
        refine bodyPost_ret (res_cell_tmp (ty := 108) rfl _ _ w.heap.size 108 _ _ rfl (set7_blk B1.out _ _ _ _ _ _ _) Tryd.underlying108 rfl (by kernel_rfl)) rfl ?_
        exact ⟨⟨0, 0, [], 0, 0, 0⟩, false, rfl, fun h => (by cases h), fun _ => R.out, set7_new F1.out _ _ _ _ _ _ _⟩
  | [x, y, u], _ =>
    have R : Hid (endS l = none) := Lib.hid ES.out
    clear hcell
    go_wp2
    refine bodyPost_ret (res_cell_tmp (ty := 108) rfl _ _ w.heap.size 108 _ _ rfl (set7_blk B1.out _ _ _ _ _ _ _) Tryd.underlying108 rfl (by kernel_rfl)) rfl ?_
    exact ⟨⟨0, 0, [], 0, 0, 0⟩, false, rfl, fun h => (by cases h), fun _ => R.out, set7_new F1.out _ _ _ _ _ _ _⟩
  | [x, p, q, s], _ =>
    have c0 : w1.cell? ⟨b, o, none⟩ = some (.string (str x)) := hcell 0 (strV x) rfl
    have c1 : w1.cell? ⟨b, o + 1, none⟩ = some (.string (str p)) := hcell 1 (strV p) rfl
    have c2 : w1.cell? ⟨b, o + 2, none⟩ = some (.string (str q)) := hcell 2 (strV q) rfl
    have c3 : w1.cell? ⟨b, o + 3, none⟩ = some (.string (str s)) := hcell 3 (strV s) rfl
    have HY : Hid (p.length ≤ 10000 ∧ q.length ≤ 10000 ∧ s.length ≤ 10000) := Lib.hid ⟨HP.out p (by simp), HP.out q (by simp), HP.out s (by simp)⟩
    have q1 := str_eq x [83, 84, 65, 84]
    clear hcell
    by_cases e1 : x = [83, 84, 65, 84]
    · rw [decide_eq_true e1] at q1
      have R : Hid (endS l = stat3 (octInt p) (octInt q) (octInt s)) := Lib.hid (by rw [ES.out, e1]; rfl)
      clear e1
      go_wp2_with fail
      refine (r1Int_any (str p) _ (by unfold maxLen; rw [str_size]; have := HY.out.1; omega)).mono ?_
      rintro e w2 ⟨rfl, rfl⟩
      rw [str_data]
      go_wp2_with fail
      refine (r1Int_any (str q) _ (by unfold maxLen; rw [str_size]; have := HY.out.2.1; omega)).mono ?_
      rintro e w2 ⟨rfl, rfl⟩
      rw [str_data]
      go_wp2_with fail
      refine (r1Int_any (str s) _ (by unfold maxLen; rw [str_size]; have := HY.out.2.2; omega)).mono ?_
      rintro e w2 ⟨rfl, rfl⟩
      rw [str_data]
      obtain ⟨a1, b1, ha⟩ : ∃ a1 b1, intPair p = (a1, b1) := ⟨_, _, rfl⟩
      obtain ⟨a2, b2, hb⟩ : ∃ a1 b1, intPair q = (a1, b1) := ⟨_, _, rfl⟩
      obtain ⟨a3, b3, hd⟩ : ∃ a1 b1, intPair s = (a1, b1) := ⟨_, _, rfl⟩
      obtain ⟨n1, r1⟩ := int_pair ha
      obtain ⟨n2, r2⟩ := int_pair hb
      obtain ⟨n3, r3⟩ := int_pair hd
      obtain ⟨g1, g2, g3⟩ := r1
      obtain ⟨h1, h2, h3⟩ := r2
      obtain ⟨k1, k2, k3⟩ := r3
      subst g1 h1 k1
      rw [ha, hb, hd]
      clear ha hb hd
      cases b1
      · have R3 : Hid (endS l = none) := Lib.hid (by rw [R.out, g3 rfl]; rfl)
        clear R g2 g3 h2 h3 k2 k3
        go_wp2
        refine bodyPost_ret (res_cell_tmp (ty := 108) rfl _ _ w.heap.size 108 _ _ rfl (set7_blk B1.out _ _ _ _ _ _ _) Tryd.underlying108 rfl (by kernel_rfl)) rfl ?_
        exact ⟨⟨5, 0, [], n1, n2, n3⟩, false, rfl, fun h => (by cases h), fun _ => R3.out, set7_new F1.out _ _ _ _ _ _ _⟩
      · cases b2
        · have R3 : Hid (endS l = none) := Lib.hid (by rw [R.out, h3 rfl]; cases octInt p <;> rfl)
          clear R g2 g3 h2 h3 k2 k3
          go_wp2
          refine bodyPost_ret (res_cell_tmp (ty := 108) rfl _ _ w.heap.size 108 _ _ rfl (set7_blk B1.out _ _ _ _ _ _ _) Tryd.underlying108 rfl (by kernel_rfl)) rfl ?_
          exact ⟨⟨5, 0, [], n1, n2, n3⟩, false, rfl, fun h => (by cases h), fun _ => R3.out, set7_new F1.out _ _ _ _ _ _ _⟩
        · cases b3
          · have R3 : Hid (endS l = none) := Lib.hid (by rw [R.out, k3 rfl]; cases octInt p <;> cases octInt q <;> rfl)
            clear R g2 g3 h2 h3 k2 k3
            go_wp2
            refine bodyPost_ret (res_cell_tmp (ty := 108) rfl _ _ w.heap.size 108 _ _ rfl (set7_blk B1.out _ _ _ _ _ _ _) Tryd.underlying108 rfl (by kernel_rfl)) rfl ?_
            exact ⟨⟨5, 0, [], n1, n2, n3⟩, false, rfl, fun h => (by cases h), fun _ => R3.out, set7_new F1.out _ _ _ _ _ _ _⟩
          · have R3 : Hid (endS l = some ⟨5, 0, [], n1, n2, n3⟩) := Lib.hid (by rw [R.out, g2 rfl, h2 rfl, k2 rfl]; rfl)
            clear R g2 g3 h2 h3 k2 k3
            go_wp2
            refine bodyPost_ret (res_cell_tmp (ty := 108) rfl _ _ w.heap.size 108 _ _ rfl (set7_blk B1.out _ _ _ _ _ _ _) Tryd.underlying108 rfl (by kernel_rfl)) rfl ?_
            exact ⟨⟨5, 0, [], n1, n2, n3⟩, true, rfl, fun _ => R3.out, fun h => (by cases h), set7_new F1.out _ _ _ _ _ _ _⟩
    · rw [decide_eq_false e1] at q1
      have R : Hid (endS l = none) := Lib.hid (by rw [ES.out]; show (if x = [83, 84, 65, 84] then _ else none) = _; rw [if_neg e1])
      clear e1
      go_wp2
      refine bodyPost_ret (res_cell_tmp (ty := 108) rfl _ _ w.heap.size 108 _ _ rfl (set7_blk B1.out _ _ _ _ _ _ _) Tryd.underlying108 rfl (by kernel_rfl)) rfl ?_
      exact ⟨⟨0, 0, [], 0, 0, 0⟩, false, rfl, fun h => (by cases h), fun _ => R.out, set7_new F1.out _ _ _ _ _ _ _⟩
  | x :: y :: u :: v :: z :: t, _ =>
    have R : Hid (endS l = none) := Lib.hid ES.out
    obtain ⟨n, hn⟩ : ∃ n, (x :: y :: u :: v :: z :: t).length = n := ⟨_, rfl⟩
    have hn5 : 5 ≤ n := by rw [← hn]; simp
    rw [hn]
    have n1 : ((n : Int) == 1) = false := by simp; omega
    have n2 : ((n : Int) == 2) = false := by simp; omega
    have n4 : ((n : Int) == 4) = false := by simp; omega
    clear hcell hn hc1
    go_wp2
    refine bodyPost_ret (res_cell_tmp (ty := 108) rfl _ _ w.heap.size 108 _ _ rfl (set7_blk B1.out _ _ _ _ _ _ _) Tryd.underlying108 rfl (by kernel_rfl)) rfl ?_
    exact ⟨⟨0, 0, [], 0, 0, 0⟩, false, rfl, fun h => (by cases h), fun _ => R.out, set7_new F1.out _ _ _ _ _ _ _⟩

end Go.Proofs.YtoockgijliacdaaDoor
