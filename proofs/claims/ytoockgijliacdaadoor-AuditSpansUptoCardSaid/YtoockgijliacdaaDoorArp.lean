/- Contract of audit's Replies. -/
import Derived.Test.YtoockgijliacdaaDoorArc
import Derived.Shelf.RegionOpen
import Derived.Sort.QuietIn
namespace Go.Proofs.YtoockgijliacdaaDoor
open Go.RowKit Go.Shelf
attribute [local go_sem] Oper.semAt_some

set_option maxRecDepth 100000 in
set_option maxHeartbeats 4000000 in
theorem replies_any (w : World) (A : Option Addr) (c : Nat) (l : List UInt8) (hl : l.length ≤ 6000) (hc : l.length ≤ c) (hm : c ≤ 9223372036854775807) (hs : SlP (fun k => k < w.heap.size) w A (l.map bval)) (hd : Digs w) (hml : ML w) :
    Calls Tryd.prog 19 #[.slice A l.length c] w (RepPost w l) := by
  have HD := Lib.hid hd
  have HM := Lib.hid hml
  have HS := Lib.hid hs
  have HC := Lib.hid hc
  have HL := Lib.hid hl
  have HMX := Lib.hid hm
  clear hd hml hs hc hl hm
  refine (callsIn_wide (n := 9)).1 ?_
  refine callsIn_of_wp_marks Tryd.func19 rfl trivial ?_ rfl
  simp only [Tryd.ntmps19, List.size_toArray, List.length_cons, List.length_nil, Nat.reduceAdd, Nat.reduceSub, Array.replicate_succ, Array.replicate_zero, List.push_toArray, List.append_toArray, List.nil_append, List.cons_append]
  gi_wp2_with (refine ⟨trivial, ?_⟩; gi_at_call 42; refine (callsIn_wide.2 (lines_any _ _ A l.length c rfl)).mono ?_; rintro e w' ⟨rfl, rfl⟩)
  simp only [Nat.add_assoc, Nat.reduceAdd]
  obtain ⟨W0, hW0⟩ : ∃ W0, (((((w.alloc (.cells #[.slice none 0 0] 40)).alloc (.cells #[.slice none 0 0] 83)).alloc (.cells #[.int .i64 0] 3)).alloc (.cells #[.int .i64 0] 3)).alloc (.cells #[.slice A l.length c] 39)) = W0 := ⟨_, rfl⟩
  rw [hW0]
  have hz : W0.heap.size = w.heap.size + 5 := by rw [← hW0]; simp
  have F0 : Fr No w W0 := by rw [← hW0]; exact (((((Fr.refl _ _).alloc _).alloc _).alloc _).alloc _).alloc _
  have b0 : Blk W0 w.heap.size 40 #[.slice none 0 0] := by rw [← hW0]; exact ((((Blk.new w _ _).alloc _).alloc _).alloc _).alloc _
  have b1 : Blk W0 (w.heap.size + 1) 83 #[.slice none 0 0] := by
    have := Blk.new (w.alloc (.cells #[.slice none 0 0] 40)) 83 #[.slice none 0 0]
    rw [World.size_alloc] at this
    rw [← hW0]; exact ((this.alloc _).alloc _).alloc _
  have b2 : Blk W0 (w.heap.size + 2) 3 #[.int .i64 0] := by
    have := Blk.new ((w.alloc (.cells #[.slice none 0 0] 40)).alloc (.cells #[.slice none 0 0] 83)) 3 #[.int .i64 0]
    rw [World.size_alloc, World.size_alloc] at this
    rw [← hW0]; exact (this.alloc _).alloc _
  have b3 : Blk W0 (w.heap.size + 3) 3 #[.int .i64 0] := by
    have := Blk.new (((w.alloc (.cells #[.slice none 0 0] 40)).alloc (.cells #[.slice none 0 0] 83)).alloc (.cells #[.int .i64 0] 3)) 3 #[.int .i64 0]
    rw [World.size_alloc, World.size_alloc, World.size_alloc] at this
    rw [← hW0]; exact this.alloc _
  have b4 : Blk W0 (w.heap.size + 4) 39 #[.slice A l.length c] := by
    have := Blk.new ((((w.alloc (.cells #[.slice none 0 0] 40)).alloc (.cells #[.slice none 0 0] 83)).alloc (.cells #[.int .i64 0] 3)).alloc (.cells #[.int .i64 0] 3)) 39 #[.slice A l.length c]
    rw [World.size_alloc, World.size_alloc, World.size_alloc, World.size_alloc] at this
    rw [← hW0]; exact this
  have HS0 : SlP (fun k => k < w.heap.size) W0 A (l.map bval) := HS.out.keep F0 (fun _ _ => id)
  have START : AuJ w [] W0 := ⟨w.heap.size + 5, .slice none 0 0, .slice none 0 0, [], F0, ⟨by omega, by omega⟩, b0, b1, b2, b3, World.ownsRow_nil _ _ _ _, rfl, World.ownsRow_nil _ _ _ _⟩
  have HZ := Lib.hid hz
  clear b0 b1 b2 b3 hW0 HS
  refine rangeFunc_box (xs := linesB [] l) (N0 := w.heap.size) (Bn := w.heap.size + 4) rfl (by omega) (gf := 70) (lb := #[.pointer (some ⟨w.heap.size + 4, 0, none⟩)]) rfl trivial (enters_of Tryd.func70 (by kernel_rfl) rfl)
    (lines1_seq 8 (by omega) w.heap.size (w.heap.size + 4) (by omega) l A c W0 b4 HC.out HMX.out HS0) (by omega) (by omega) (fun _ => rfl)
    (AuJ w) (AuJ.own w _ (by omega)) (fun pre W v h => AuJ.box w pre W v h) START
    (fun x => { tmps := #[.slice A l.length c, undef, .slice none 0 0, .int .i64 0, .pointer (some ⟨w.heap.size, 0, none⟩), .pointer (some ⟨w.heap.size + 1, 0, none⟩), .pointer (some ⟨w.heap.size + 2, 0, none⟩), .pointer (some ⟨w.heap.size + 3, 0, none⟩), strV x, undef, undef, .slice A l.length c, .func (.func 70) #[] #[.pointer (some ⟨w.heap.size + 4, 0, none⟩)], strV x, undef, undef, undef, undef, undef, undef, undef, undef, undef, undef, undef, undef, undef, undef, undef, undef, undef, undef, undef, undef, undef, undef, undef, undef, undef, undef, undef, undef], defers := [] }) ?assign ?body ?done
  case assign =>
    intro l x W K hK
    gi_wp2
    exact hK
  case body =>
    clear START HS0 b4 F0 hz
    rintro l1 pre x rest W hx ⟨B, vo, vw, cs, hI⟩ hW
    dsimp only
    obtain ⟨st, hst⟩ : ∃ st, aus0.run pre = st := ⟨_, rfl⟩
    rw [hst] at hI
    have NEXT : Hid (∀ W', (∃ B vo vw cs, AuI w (st.step x) W' B vo vw cs) → AuJ w (pre ++ [x]) W') := Lib.hid (fun W' h => by
      have e : aus0.run (pre ++ [x]) = st.step x := by rw [← hst]; simp [Aus.run]
      unfold AuJ
      rw [e]
      exact h)
    have hlen : st.at_ + x.length + 1 ≤ l.length := by
      have h1 := lenL_lines [] l
      rw [hx, lenL_append] at h1
      have h2 := Aus.run_at pre aus0
      rw [hst] at h2
      have h3 : lenL (x :: rest) = x.length + 1 + lenL rest := by simp [lenL]
      rw [h3] at h1
      have h4 : aus0.at_ = 0 := rfl
      simp at h1
      omega
    have hsm : st.wait.length ≤ st.at_ ∧ st.out.length ≤ st.at_ := by rw [← hst]; exact Aus.small (x := aus0) ⟨Nat.le_refl _, Nat.le_refl _⟩
    have HSM : Hid (st.wait.length ≤ 6000 ∧ st.out.length ≤ 6000) := Lib.hid (by have := HL.out; omega)
    clear hsm
    have hl := HL.out
    obtain ⟨n, hn⟩ : ∃ n, st.at_ = n := ⟨_, rfl⟩
    obtain ⟨m, hm⟩ : ∃ m, x.length = m := ⟨_, rfl⟩
    have hsx : (strV x) = .string (str x) := rfl
    have hsz : (str x).size = m := by rw [str_size]; exact hm
    rw [hn, hm] at hlen
    have c2 := hI.ba.cell_ 0 rfl
    rw [hn] at c2
    have f2 := hI.ba.frozen 0
    have II := Lib.hid hI
    have HST := Lib.hid hst
    have HX := Lib.hid hx
    have HN := Lib.hid hn
    have HMM := Lib.hid hm
    have hn1 : (n : Int) ≤ 6000 := by omega
    have hm1 : (m : Int) ≤ 6000 := by omega
    have HW := Lib.hid hW
    rw [hsx]
    clear hI hst hx hlen hl hn hm hW hsx
    have I1 := II.out.at (n + (m + 1))
    have e1 : ((n + (m + 1) : Nat) : Int) = (n : Int) + ((m : Int) + 1) := by omega
    rw [e1] at I1
    have S1 := Lib.hid (Stp.set w W (b := w.heap.size + 2) (i := 0) (by omega) (by omega) (.int .i64 ((n : Int) + ((m : Int) + 1))))
    have K1 := Lib.hid I1
    clear e1 I1
    gi_wp2_with fail
    refine ⟨trivial, (CallsIn.inRound l1 (callsIn_wide.2 (ending_any x _ (HD.out.keep K1.out.fr) (HM.out.keep K1.out.fr id) (by rw [HMM.out]; omega)))).mono ?_⟩
    rintro e W2 ⟨r, ok, rfl, h1, h2, f3⟩
    have K2 := Lib.hid (K1.out.no f3)
    have S2 := Lib.hid (S1.out.trans (Stp.no f3))
    clear f3 K1 S1 c2 f2
    unfold rplCells
    have i1 := (K2.out.no ((Fr.refl No W2).alloc (.cells (rplCells r (.slice none 0 0)).toArray 86)))
    have S3 := Lib.hid (S2.out.trans (Stp.no ((Fr.refl No W2).alloc (.cells (rplCells r (.slice none 0 0)).toArray 86))))
    unfold rplCells at i1 S3
    have w1 := K2.out.bw.cell_ 0 rfl
    have w1' := i1.bw.cell_ 0 rfl
    have wf1 := K2.out.bw.frozen 0
    have wf1' := i1.bw.frozen 0
    have K3 := Lib.hid i1
    clear i1
    cases ok
    · have HE : Hid (endS x = none) := Lib.hid (h2 rfl)
      clear h1 h2
      have O3 := K3.out.ow
      have hb3 := K3.out.size.2
      have HO3 := Lib.hid O3
      have HB3 := Lib.hid hb3
      clear O3 hb3
      obtain ⟨i0, hi, hz0, hz1, hz2⟩ := info_parts infoStr
      gi_wp2_with (gi_at_builtin; go_loud (refine wpListIn_append_own _ rfl _ _ 83 rfl B 9 i0 (.string ByteArray.empty) 1 16 Tryd.underlying83 hi hz0 hz1 hz2 rfl (by decide) _ _ _ rfl (HO3.out.alloc _) ⟨W2.heap.size + 1, 0, none⟩ 1 1 [.string (str x)] rfl rfl (by have := cell_one_new (W2.alloc (.cells #[.int .i64 (r.kind : Int), .slice none 0 0, .int .i64 (r.num : Int), .string (str r.word), .int .i64 (r.a : Int), .int .i64 (r.b : Int), .int .i64 (r.c : Int)] 86)) (.string (str x)) 9; rw [World.size_alloc] at this; exact this) (by simp [Value.oneCell']) (by have := HSM.out; unfold maxLen; omega) (by have := HSM.out; omega) (by have := HB3.out; simp only [World.size_alloc] at this ⊢; omega) ?_); intro v' w4 hown' hgrow _; obtain ⟨g', cap', rfl⟩ := ownsRow_succ hown'; have KK := K3.out.wait hown' hgrow; have kc := KK.1.cell_ 0 rfl; have kf := KK.1.frozen 0)
      have SS := S3.out.trans KK.2.2
      have es : st.step x = ⟨st.out, st.wait ++ [x], n + (m + 1), st.end_⟩ := by rw [Aus.step_none HE.out, show st.at_ + x.length + 1 = n + (m + 1) by rw [HN.out, HMM.out]; omega]
      exact ⟨rfl, SS.ko, SS.kp (by have := HW.out; have := HZ.out; omega), NEXT.out _ ⟨B, vo, _, cs, es ▸ KK.2.1⟩⟩
    · have HE : Hid (endS x = some r) := Lib.hid (h1 rfl)
      clear h1 h2
      obtain ⟨Aw, cw, rfl, -, -, -⟩ := own_slt K2.out.ow
      have g1 : ∀ o, (W2.alloc o).cell? ⟨w.heap.size + 1, 0, none⟩ = some (.slice Aw st.wait.length cw) := fun o => (K2.out.bw.alloc o).cell_ 0 rfl
      have g1f : ∀ o, (W2.alloc o).frozen? ⟨w.heap.size + 1, 0, none⟩ = false := fun o => (K2.out.bw.alloc o).frozen 0
      have g2 : ∀ o, (W2.alloc o).cell? ⟨w.heap.size + 2, 0, none⟩ = some (.int .i64 ((n : Int) + ((m : Int) + 1))) := fun o => (K2.out.ba.alloc o).cell_ 0 rfl
      have g3 : ∀ o, (W2.alloc o).cell? ⟨w.heap.size + 3, 0, none⟩ = some (.int .i64 (st.end_ : Int)) := fun o => (K2.out.be.alloc o).cell_ 0 rfl
      have g3f : ∀ o, (W2.alloc o).frozen? ⟨w.heap.size + 3, 0, none⟩ = false := fun o => (K2.out.be.alloc o).frozen 0
      have be1 := K2.out.be.far (p := ⟨w.heap.size + 1, 0, none⟩) (by show w.heap.size + 3 ≠ w.heap.size + 1; omega) (.slice none 0 0)
      have bw3 := K2.out.bw.far (p := ⟨w.heap.size + 3, 0, none⟩) (by show w.heap.size + 1 ≠ w.heap.size + 3; omega) (.int .i64 ((n : Int) + ((m : Int) + 1)))
      have g4 : ∀ o, ((W2.setCell ⟨w.heap.size + 1, 0, none⟩ (.slice none 0 0)).alloc o).cell? ⟨w.heap.size + 3, 0, none⟩ = some (.int .i64 (st.end_ : Int)) := fun o => (be1.alloc o).cell_ 0 rfl
      have g4f : ∀ o, ((W2.setCell ⟨w.heap.size + 1, 0, none⟩ (.slice none 0 0)).alloc o).frozen? ⟨w.heap.size + 3, 0, none⟩ = false := fun o => (be1.alloc o).frozen 0
      have g5 : ∀ o, ((W2.setCell ⟨w.heap.size + 3, 0, none⟩ (.int .i64 ((n : Int) + ((m : Int) + 1)))).alloc o).cell? ⟨w.heap.size + 1, 0, none⟩ = some (.slice Aw st.wait.length cw) := fun o => (bw3.alloc o).cell_ 0 rfl
      have g5f : ∀ o, ((W2.setCell ⟨w.heap.size + 3, 0, none⟩ (.int .i64 ((n : Int) + ((m : Int) + 1)))).alloc o).frozen? ⟨w.heap.size + 1, 0, none⟩ = false := fun o => (bw3.alloc o).frozen 0
      have hw2 : w.heap.size + 5 ≤ W2.heap.size := Nat.le_trans K2.out.size.1 K2.out.size.2
      have KK := (K2.out.no ((Fr.refl No W2).alloc (.cells #[.int .i64 (r.kind : Int), .slice Aw st.wait.length cw, .int .i64 (r.num : Int), .string (str r.word), .int .i64 (r.a : Int), .int .i64 (r.b : Int), .int .i64 (r.c : Int)] 86))).cut (n + (m + 1)) ((n : Int) + ((m : Int) + 1)) (by omega)
      have S5 : Hid (Stp w W (((W2.alloc (.cells #[.int .i64 (r.kind : Int), .slice Aw st.wait.length cw, .int .i64 (r.num : Int), .string (str r.word), .int .i64 (r.a : Int), .int .i64 (r.b : Int), .int .i64 (r.c : Int)] 86)).setCell ⟨w.heap.size + 1, 0, none⟩ (.slice none 0 0)).setCell ⟨w.heap.size + 3, 0, none⟩ (.int .i64 ((n : Int) + ((m : Int) + 1))))) := Lib.hid ((S2.out.trans (Stp.no ((Fr.refl No W2).alloc _))).trans KK.2.1)
      obtain ⟨k5, _, Aw', cw', hva, hc5, hm5, hsl5⟩ := KK
      injection hva with ea _ ec
      subst ea ec
      have B5 : Blk (((W2.alloc (.cells #[.int .i64 (r.kind : Int), .slice Aw st.wait.length cw, .int .i64 (r.num : Int), .string (str r.word), .int .i64 (r.a : Int), .int .i64 (r.b : Int), .int .i64 (r.c : Int)] 86)).setCell ⟨w.heap.size + 1, 0, none⟩ (.slice none 0 0)).setCell ⟨w.heap.size + 3, 0, none⟩ (.int .i64 ((n : Int) + ((m : Int) + 1)))) W2.heap.size 86 #[.int .i64 (r.kind : Int), .slice Aw st.wait.length cw, .int .i64 (r.num : Int), .string (str r.word), .int .i64 (r.a : Int), .int .i64 (r.b : Int), .int .i64 (r.c : Int)] := ((Blk.new W2 _ _).far (p := ⟨w.heap.size + 1, 0, none⟩) (by show W2.heap.size ≠ w.heap.size + 1; omega) _).far (p := ⟨w.heap.size + 3, 0, none⟩) (by show W2.heap.size ≠ w.heap.size + 3; omega) _
      obtain ⟨⟨x0, x1, x2, x3, x4, x5, x6⟩, -⟩ := blk7 B5
      have o5 := k5.bo.cell_ 0 rfl
      have of5 := k5.bo.frozen 0
      have OO5 := Lib.hid k5.oo
      have K6 := Lib.hid (k5.no ((Fr.refl No _).drewN 1))
      have L5 := Lib.hid hsl5
      have C5 := Lib.hid (And.intro hc5 hm5)
      clear be1 bw3 w1 w1' wf1 wf1' k5 hc5 hm5 hsl5 B5
      have es : Hid (st.step x = ⟨st.out ++ [(r, st.wait)], [], n + (m + 1), n + (m + 1)⟩) := Lib.hid (by rw [Aus.step_some HE.out, show st.at_ + x.length + 1 = n + (m + 1) by rw [HN.out, HMM.out]; omega])
      have SZ : Hid (w.heap.size + 5 ≤ W.heap.size) := Lib.hid (by have := HW.out; have := HZ.out; omega)
      have hmx : Tryd.prog.follows .mixedOrders = true := by kernel_rfl
      obtain ⟨i0, hi, hz0, hz1, hz2⟩ := info_parts infoRp
      gi_wp2_with fail
      gi_region_with_o (fail)
      all_goals clear g1 g1f g2 g3 g3f g4 g4f g5 g5f
      all_goals gi_wp2_with (gi_at_builtin; refine wpListIn_append_own _ rfl _ _ 40 rfl (w.heap.size + 5) 86 i0 (.agg #[.int .i64 0, .slice none 0 0, .int .i64 0, .string { data := #[] }, .int .i64 0, .int .i64 0, .int .i64 0]) 7 80 Tryd.underlying40 hi hz0 hz1 hz2 rfl (by decide) _ _ _ rfl (OO5.out.alloc (.cells #[.int .i64 (r.kind : Int), .slice Aw st.wait.length cw, .int .i64 (r.num : Int), .string (str r.word), .int .i64 (r.a : Int), .int .i64 (r.b : Int), .int .i64 (r.c : Int)] 86)).drew ⟨W2.heap.size + 1, 0, none⟩ 1 1 [.int .i64 (r.kind : Int), .slice Aw st.wait.length cw, .int .i64 (r.num : Int), .string (str r.word), .int .i64 (r.a : Int), .int .i64 (r.b : Int), .int .i64 (r.c : Int)] rfl rfl (seven_new _ _ (by simp [World.setCell]) _ _ _ _ _ _ _ _) (by simp [Value.oneCell']) (by have := HSM.out; unfold maxLen; omega) (by have := HSM.out; omega) (by simp [World.setCell, World.drew]; omega) ?_; intro v' w4 hown' hgrow _; obtain ⟨g', cap', rfl⟩ := ownsRow_succ hown'; have KK := K6.out.put (r := r) (ls := st.wait) (A := Aw) (c := cw) hown' hgrow C5.out.1 C5.out.2 L5.out; have kc := KK.1.cell_ 0 rfl; have kf := KK.1.frozen 0)
      all_goals (have SS := (S5.out.trans (Stp.no ((Fr.refl No _).drewN 1))).trans KK.2.2; exact ⟨rfl, SS.ko, SS.kp SZ.out, NEXT.out _ (by rw [es.out]; exact ⟨_, _, _, _, KK.2.1⟩)⟩)
  case done =>
    rintro D W hD ⟨B, vo, vw, cs, hI⟩ hK
    dsimp only
    have c0 := hI.bo.cell_ 0 rfl
    have c3 := hI.be.cell_ 0 rfl
    obtain ⟨Ao, co, hvo, hc1, hc2, hsl⟩ := own_slp hI.oo
    subst hvo
    have hen : ((aus0.run (linesB [] l)).end_ : Int) ≤ (l.length : Int) := by have := audS_end l; unfold audS at this; omega
    have hln : (l.length : Int) ≤ 6000 := by have := HL.out; omega
    have II := Lib.hid hI
    have HK := Lib.hid hK
    have HD2 := Lib.hid hD
    have HC1 := Lib.hid (And.intro hc1 hc2)
    have HSL := Lib.hid hsl
    obtain ⟨E, hE⟩ : ∃ E, (aus0.run (linesB [] l)).end_ = E := ⟨_, rfl⟩
    obtain ⟨Lo, hLo⟩ : ∃ Lo, (aus0.run (linesB [] l)).out.length = Lo := ⟨_, rfl⟩
    obtain ⟨Ln, hLn⟩ : ∃ Ln, l.length = Ln := ⟨_, rfl⟩
    rw [hE] at hen c3
    rw [hLo] at c0
    rw [hLn] at hen hln ⊢
    have HE := Lib.hid hE
    have HLo := Lib.hid hLo
    have HLn := Lib.hid hLn
    clear hI hK hsl hD START HS0 b4 F0 hc1 hc2 hE hLo hLn hz
    have hmx : Tryd.prog.follows .mixedOrders = true := by kernel_rfl
    gi_wp2_with fail
    gi_quiet (fail)
    gi_wp2
    have hK' : (W.drewN nq).heap[D]? = some (.deferred (some [])) := HK.out
    refine ⟨by simp, .inl ⟨_, _, rfl, run_takeDeferred hK', ?_⟩⟩
    refine ⟨_, results_tmp2 rfl _ _ _, ?_⟩
    have ck : CK W ((W.drewN nq).putObj D (.deferred none)) := fun k o hk hc => by
      by_cases e : k = D
      · subst e
        rw [HK.out] at hk
        cases hk
        cases hc
      · exact (World.putObj_heap_other e).trans hk
    have FD : Fr (fun k => k = D) W ((W.drewN nq).putObj D (.deferred none)) := ⟨rfl, rfl, rfl, by simp, fun k _ hn => World.putObj_heap_other hn⟩
    have hDw : w.heap.size ≤ D := by have := HD2.out; have := HZ.out; omega
    have HSLT := own_slt II.out.oo
    obtain ⟨Ao', co', hvv, hc1, hc2, hslt⟩ := HSLT
    injection hvv with ea _ ec
    subst ea ec
    refine ⟨Ao, co, cs, ?_, hc1, hc2, ((hslt.ck ck).mono (fun k hk => by omega)).slp, (II.out.rc.map (fun _ _ s => s.ck ck)).weak (fun k hk => by omega), II.out.fr.then_ FD (fun i hi e => by omega)⟩
    rw [← HE.out, ← HLo.out, ← HLn.out]
    rfl

end Go.Proofs.YtoockgijliacdaaDoor
