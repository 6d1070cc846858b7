/- Contract: the same replies. -/
import Derived.Test.YtoockgijliacdaaDoorAlq
namespace Go.Proofs.YtoockgijliacdaaDoor
open Go.RowKit

theorem RC.at {S : Nat → Prop} {w : World} {rs : List (Rpl × List (List UInt8))} {cs : List Value} (h : RC S w rs cs) {k : Nat} {r : Rpl} {ls : List (List UInt8)} (hk : rs[k]? = some (r, ls)) :
    ∃ A c, ls.length ≤ c ∧ c ≤ 9223372036854775807 ∧ SlT 9 S w A (ls.map strV) ∧ ∀ j u, (rplCells r (.slice A ls.length c))[j]? = some u → cs[7 * k + j]? = some u := by
  induction rs generalizing cs k with
  | nil => simp at hk
  | cons x t ih =>
    obtain ⟨r', ls'⟩ := x
    unfold RC at h
    obtain ⟨A, c, rest, rfl, h1, h2, h3, h4⟩ := h
    cases k with
    | zero =>
      simp at hk
      obtain ⟨rfl, rfl⟩ := hk
      refine ⟨A, c, h1, h2, h3, fun j u hu => ?_⟩
      have hj : j < (rplCells r' (.slice A ls'.length c)).length := (List.getElem?_eq_some_iff.1 hu).1
      rw [Nat.mul_zero, Nat.zero_add, List.getElem?_append_left hj]
      exact hu
    | succ k =>
      simp at hk
      obtain ⟨A', c', g1, g2, g3, g4⟩ := ih h4 hk
      refine ⟨A', c', g1, g2, g3, fun j u hu => ?_⟩
      have := g4 j u hu
      have e : (rplCells r' (.slice A ls'.length c)).length = 7 := rfl
      rw [List.getElem?_append_right (by rw [e]; omega), e, show 7 * (k + 1) + j - 7 = 7 * k + j by omega]
      exact this
theorem rc_len {S : Nat → Prop} {w : World} {rs : List (Rpl × List (List UInt8))} {cs : List Value} (h : RC S w rs cs) : cs.length = 7 * rs.length := h.len

/-- The seven cells of a reply. -/
theorem rpl_at {S T : Nat → Prop} {w : World} {A : Option Addr} {rs : List (Rpl × List (List UInt8))} {cs : List Value} (h : SlP S w A cs) (hr : RC T w rs cs) {k : Nat} {r : Rpl} {ls : List (List UInt8)} (hk : rs[k]? = some (r, ls)) :
    ∃ b o A' c', A = some ⟨b, o, none⟩ ∧ S b ∧ SlT 9 T w A' (ls.map strV) ∧ ls.length ≤ c' ∧ c' ≤ 9223372036854775807 ∧
      w.cell? ⟨b, o + k * 7, none⟩ = some (.int .i64 r.kind) ∧ w.cell? ⟨b, o + k * 7 + 1, none⟩ = some (.slice A' ls.length c') ∧ w.cell? ⟨b, o + k * 7 + 2, none⟩ = some (.int .i64 r.num) ∧ w.cell? ⟨b, o + k * 7 + 3, none⟩ = some (.string (str r.word)) ∧
      w.cell? ⟨b, o + k * 7 + 4, none⟩ = some (.int .i64 r.a) ∧ w.cell? ⟨b, o + k * 7 + 5, none⟩ = some (.int .i64 r.b) ∧ w.cell? ⟨b, o + k * 7 + 6, none⟩ = some (.int .i64 r.c) := by
  obtain ⟨A', c', h1, h2, h3, h4⟩ := hr.at hk
  obtain ⟨b, o, e, hb, hc⟩ := h (by rintro rfl; have := h4 0 _ rfl; simp at this)
  refine ⟨b, o, A', c', e, hb, h3, h1, h2, ?_, ?_, ?_, ?_, ?_, ?_, ?_⟩
  · have := hc _ _ (h4 0 _ rfl); rw [show o + (7 * k + 0) = o + k * 7 by omega] at this; exact this
  · have := hc _ _ (h4 1 _ rfl); rw [show o + (7 * k + 1) = o + k * 7 + 1 by omega] at this; exact this
  · have := hc _ _ (h4 2 _ rfl); rw [show o + (7 * k + 2) = o + k * 7 + 2 by omega] at this; exact this
  · have := hc _ _ (h4 3 _ rfl); rw [show o + (7 * k + 3) = o + k * 7 + 3 by omega] at this; exact this
  · have := hc _ _ (h4 4 _ rfl); rw [show o + (7 * k + 4) = o + k * 7 + 4 by omega] at this; exact this
  · have := hc _ _ (h4 5 _ rfl); rw [show o + (7 * k + 5) = o + k * 7 + 5 by omega] at this; exact this
  · have := hc _ _ (h4 6 _ rfl); rw [show o + (7 * k + 6) = o + k * 7 + 6 by omega] at this; exact this

theorem stat_eq (a b c : Int) (w : World) : (Op.equalIn 10000 84 (.agg #[.int .i64 a, .int .i64 b, .int .i64 c]) (.agg #[.int .i64 a, .int .i64 b, .int .i64 c])).run Tryd.prog w = .ok true w := by
  have u3 := Tryd.underlying3
  have a3 := Tryd.isAgg3
  have z3 := Tryd.sizeOf3
  rw [show (10000 : Nat) = 9999 + 1 from rfl, Op.equalIn]
  simp only [Sem.run_bind, run_underlying Tryd.underlying84, Result.andThen_ok]
  simp only [Std.Legacy.Range.forIn_eq_forIn_range', Std.Legacy.Range.size, Nat.sub_zero, Nat.add_sub_cancel, Nat.div_one, List.range'_succ, List.range'_zero, List.forIn_cons, List.forIn_nil]
  go_simp

set_option maxRecDepth 100000 in
set_option maxHeartbeats 2000000 in
theorem same_true {S1 S2 T1 T2 : Nat → Prop} (w : World) (A1 A2 : Option Addr) (c1 c2 : Nat) (rs : List (Rpl × List (List UInt8))) (cs1 cs2 : List Value)
    (h1 : SlP S1 w A1 cs1) (r1 : RC T1 w rs cs1) (h2 : SlP S2 w A2 cs2) (r2 : RC T2 w rs cs2) (hl : rs.length ≤ 6000) (hls : ∀ x ∈ rs, x.2.length ≤ 6000) :
    Calls Tryd.prog 21 #[.slice A1 rs.length c1, .slice A2 rs.length c2] w fun e w' => e = .returned (.bool true) ∧ Drawn w w' := by
  have H1 := Lib.hid h1
  have H2 := Lib.hid h2
  have R1 := Lib.hid r1
  have R2 := Lib.hid r2
  have HLS := Lib.hid hls
  obtain ⟨n, hn⟩ : ∃ n, rs.length = n := ⟨_, rfl⟩
  rw [hn] at hl ⊢
  have HN := Lib.hid hn
  have hl2 : (n : Int) ≤ 6000 := by omega
  clear h1 h2 hn hl r1 r2 hls
  go_enter Tryd.func21, Tryd.ntmps21
  go_wp2_with fail
  go_loopw [5] (fun i wr => ∃ k : Nat, k ≤ n ∧ i = .int .i64 (k : Int) ∧ Hid (Drawn w wr)) (fun i _ => n - (intOf i).toNat)
  case atStart => exact ⟨0, Nat.zero_le _, rfl, Lib.hid (Drawn.refl _)⟩
  case round =>
    obtain ⟨k, hk, rfl, hI⟩ := hrel
    by_cases hlt : k < n
    · obtain ⟨⟨r, ls⟩, hx⟩ : ∃ x, rs[k]? = some x := ⟨rs[k]'(by rw [HN.out]; exact hlt), List.getElem?_eq_getElem _⟩
      have hle : Hid (ls.length ≤ 6000) := Lib.hid (HLS.out (r, ls) (List.mem_of_getElem? hx))
      have h1' : SlP S1 wr A1 cs1 := by obtain ⟨m, e⟩ := hI.out; rw [e]; exact H1.out
      have h2' : SlP S2 wr A2 cs2 := by obtain ⟨m, e⟩ := hI.out; rw [e]; exact H2.out
      have r1' : RC T1 wr rs cs1 := by obtain ⟨m, e⟩ := hI.out; rw [e]; exact RC.map (w := w) (w' := w.drewN m) (fun A xs s => s.turn (w1 := w.drewN m) (fun _ _ _ _ _ => rfl)) R1.out
      have r2' : RC T2 wr rs cs2 := by obtain ⟨m, e⟩ := hI.out; rw [e]; exact RC.map (w := w) (w' := w.drewN m) (fun A xs s => s.turn (w1 := w.drewN m) (fun _ _ _ _ _ => rfl)) R2.out
      obtain ⟨b1, o1, B1, d1, rfl, _, g1, _, _, x0, x1, x2, x3, x4, x5, x6⟩ := rpl_at h1' r1' hx
      obtain ⟨b2, o2, B2, d2, rfl, _, g2, _, _, y0, y1, y2, y3, y4, y5, y6⟩ := rpl_at h2' r2' hx
      have G1 : Hid (∀ q, SlP T1 (wr.drewN q) B1 (ls.map strV)) := Lib.hid (fun q => g1.slp)
      have G2 : Hid (∀ q, SlP T2 (wr.drewN q) B2 (ls.map strV)) := Lib.hid (fun q => g2.slp)
      clear h1' h2' r1' r2'
      obtain ⟨kd, hkd⟩ : ∃ z : Int, (r.kind : Int) = z := ⟨_, rfl⟩
      obtain ⟨nm, hnm⟩ : ∃ z : Int, (r.num : Int) = z := ⟨_, rfl⟩
      obtain ⟨wd, hwd⟩ : ∃ z, str r.word = z := ⟨_, rfl⟩
      obtain ⟨za, hza⟩ : ∃ z : Int, (r.a : Int) = z := ⟨_, rfl⟩
      obtain ⟨zb, hzb⟩ : ∃ z : Int, (r.b : Int) = z := ⟨_, rfl⟩
      obtain ⟨zc, hzc⟩ : ∃ z : Int, (r.c : Int) = z := ⟨_, rfl⟩
      rw [hkd] at x0 y0
      rw [hnm] at x2 y2
      rw [hwd] at x3 y3
      rw [hza] at x4 y4
      rw [hzb] at x5 y5
      rw [hzc] at x6 y6
      clear hkd hnm hwd hza hzb hzc hx g1 g2
      go_wp2_with fail
      have heq := fun q => stat_eq za zb zc (wr.drewN q)
      go_quiet ((go_at_call 45; exact Calls.quiet_of ((lines_eq _ B1 B2 _ _ ls (G1.out _) (G2.out _) hle.out).mono fun _ _ h => h)))
      go_wp2
      go_roundw
      case rel => exact ⟨k + 1, by omega, by go_num, Lib.hid (hI.out.step _)⟩
      case measure => simp [intOf]; omega
    · go_wp2
      go_ret
      exact ⟨rfl, hI.out⟩

end Go.Proofs.YtoockgijliacdaaDoor
