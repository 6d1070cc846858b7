/- The law AuditReplies, walked. -/
import Derived.Test.YtoockgijliacdaaDoorAlg
import Derived.Test.YtoockgijliacdaaDoorAcv
namespace Go.Proofs.YtoockgijliacdaaDoor
open Go.RowKit

theorem Digs.fr {w w' : World} (h : Digs w) (F : Fr No w w') : Digs w' := h.keep F
theorem lines_small : ∀ (L : List (List UInt8)) (x : Aus) (n : Nat), (∀ y ∈ x.out, y.2.length ≤ n) → x.wait.length + L.length ≤ n → ∀ y ∈ (x.run L).out, y.2.length ≤ n := by
  intro L
  induction L with
  | nil => intro x n h _ y hy; exact h y hy
  | cons s L ih =>
    intro x n h hw y hy
    simp only [List.length_cons] at hw
    refine ih (x.step s) n ?_ ?_ y hy
    · unfold Aus.step
      split
      · intro z hz
        simp at hz
        rcases hz with hz | rfl
        · exact h z hz
        · show x.wait.length ≤ n
          omega
      · exact h
    · unfold Aus.step
      split <;> simp <;> omega
theorem linesB_len (acc l : List UInt8) : (linesB acc l).length ≤ l.length := by
  induction l generalizing acc with
  | nil => exact Nat.le_refl _
  | cons c l ih =>
    rw [linesB_cons]
    split
    · have := ih []; simp; omega
    · have := ih (acc ++ [c]); simp; omega
theorem audS_lines (b : List UInt8) : ∀ y ∈ (audS b).out, y.2.length ≤ b.length := lines_small (linesB [] b) aus0 b.length (by simp [aus0]) (by have := linesB_len [] b; simp [aus0]; omega)
theorem audS_outs (b : List UInt8) : (audS b).out.length ≤ b.length := by
  have h := (Aus.small (l := linesB [] b) (x := aus0) ⟨Nat.le_refl _, Nat.le_refl _⟩).2
  have h2 := Aus.run_at (linesB [] b) aus0
  have h3 := lenL_lines [] b
  unfold audS
  simp [aus0] at h2 h3 h ⊢
  omega

set_option maxRecDepth 100000 in
set_option maxHeartbeats 2000000 in
theorem lawReplies_any (w : World) (A : Option Addr) (c : Nat) (l : List UInt8) (hc : l.length ≤ c) (hm : c ≤ 9223372036854775807) (hs : SlP (fun k => k < w.heap.size) w A (l.map bval)) (hd : Digs w) (hml : ML w) :
    Calls Tryd.prog 7 #[.slice A l.length c] w fun e w' => e = .returned (.bool true) ∧ Fr No w w' := by
  have HD := Lib.hid hd
  have HM := Lib.hid hml
  have HS := Lib.hid hs
  have HC := Lib.hid (And.intro hc hm)
  clear hd hml hs hc hm
  by_cases hl : l.length ≤ 6000
  · have q : decide ((6000 : Int) < (l.length : Int)) = false := decide_eq_false (by omega)
    have HL := Lib.hid hl
    clear hl
    go_enter Tryd.func7, Tryd.ntmps7
    go_wp2_with fail
    refine (replies_any _ A c l HL.out HC.out.1 HC.out.2 HS.out HD.out HM.out).mono ?_
    rintro e w1 ⟨A1, c1, cs1, rfl, h1, h2, s1, r1, f1⟩
    have F1 := Lib.hid f1
    have S1 := Lib.hid s1
    have R1 := Lib.hid r1
    clear f1 s1 r1 h1 h2
    go_wp2_with fail
    refine (refReplies_any _ A c l HL.out HC.out.1 HC.out.2 ((HS.out.keep F1.out (fun _ _ => id)).mono (fun k hk => Nat.lt_of_lt_of_le hk F1.out.size))).mono ?_
    rintro e w2 ⟨A2, c2, cs2, rfl, h1, h2, s2, r2, f2⟩
    have F2 := Lib.hid (F1.out.trans f2)
    have S1' := Lib.hid (S1.out.keep f2 (fun _ _ => id))
    have R1' := Lib.hid (R1.out.map (S' := fun k => w.heap.size ≤ k) (w' := w2) (fun _ _ s => s.keep f2 (fun _ _ => id)))
    have S2 := Lib.hid s2
    have R2 := Lib.hid r2
    have HOL : Hid ((audS l).out.length ≤ 6000) := Lib.hid (by have := audS_outs l; have := HL.out; omega)
    have HLN : Hid (∀ y ∈ (audS l).out, y.2.length ≤ 6000) := Lib.hid (fun y hy => by have := audS_lines l y hy; have := HL.out; omega)
    clear f2 s2 r2 h1 h2
    obtain ⟨rs, hrs⟩ : ∃ rs, (audS l).out = rs := ⟨_, rfl⟩
    rw [hrs] at R1' R2 HOL HLN ⊢
    clear hrs R1 S1 F1
    obtain ⟨E, hE⟩ : ∃ E : Int, ((l.length : Int) - ((audS l).end_ : Int)) = E := ⟨_, rfl⟩
    rw [hE]
    clear hE
    go_wp2_with fail
    refine (conv_any _ A1 c1 rs cs1 S1'.out R1'.out HOL.out).mono ?_
    rintro e w3 ⟨v, rfl, o3, r3, f3, -⟩
    obtain ⟨A3, c3, rfl, -, -, s3⟩ := own_slp o3
    have F3 := Lib.hid (F2.out.trans f3)
    have S3 := Lib.hid s3
    have R3 := Lib.hid r3
    have S2' := Lib.hid (S2.out.keep f3 (fun _ _ => id))
    have R2' := Lib.hid (R2.out.map (w' := w3) (S' := fun k => w1.heap.size ≤ k) (fun _ _ s => s.keep f3 (fun _ _ => id)))
    clear f3 o3 r3 s3 S2 R2 S1' R1'
    go_wp2_with fail
    refine (same_true _ A3 A2 c3 c2 rs cs1 cs2 S3.out R3.out S2'.out R2'.out HOL.out HLN.out).mono ?_
    rintro e w4 ⟨rfl, d4⟩
    have F4 := Lib.hid (F3.out.trans (d4.fr No))
    clear d4
    go_wp2_with fail
    refine (awake_see _ (HD.out.keep F4.out) (HM.out.keep F4.out id)).mono ?_
    rintro e w5 ⟨rfl, f5⟩
    have F5 := Lib.hid (F4.out.trans f5)
    clear f5
    go_wp2
    go_ret
    exact ⟨rfl, F5.out⟩
  · have q : decide ((6000 : Int) < (l.length : Int)) = true := decide_eq_true (by omega)
    clear hl
    go_enter Tryd.func7, Tryd.ntmps7
    go_wp2_with fail
    refine (awake_see _ HD.out HM.out).mono ?_
    rintro e w5 ⟨rfl, f5⟩
    have F5 := Lib.hid f5
    clear f5
    go_wp2
    go_ret
    exact ⟨rfl, F5.out⟩

end Go.Proofs.YtoockgijliacdaaDoor
