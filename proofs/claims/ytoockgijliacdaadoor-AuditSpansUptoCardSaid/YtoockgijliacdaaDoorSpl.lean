/- Contract: the statement AuditSpans. -/
import Derived.Test.YtoockgijliacdaaDoorFen
import Derived.Test.YtoockgijliacdaaDoorSpq
import Derived.Test.YtoockgijliacdaaDoorAlg
namespace Go.Proofs.YtoockgijliacdaaDoor
open Go.RowKit

theorem spanC_take {l : List (Int × Int × Int)} {k : Nat} {x : Int × Int × Int} (hk : l[k]? = some x) : spanC (l.take (k + 1)) = spanC (l.take k) ++ [.int .u32 x.1, .int .i64 x.2.1, .int .i64 x.2.2] := by
  obtain ⟨hlt, e⟩ := List.getElem?_eq_some_iff.1 hk
  rw [List.take_succ_eq_append_getElem hlt, e]
  exact spanC_snoc _ _ _ _

set_option maxRecDepth 100000 in
set_option maxHeartbeats 4000000 in
theorem lawSpans_any (w : World) (A : Option Addr) (c : Nat) (fs : List Fct) (p : Int) (h : SlP (fun k => k < w.heap.size) w A (FactsC fs)) (hi : ∀ f ∈ fs, FctIn w f) (hl : fs.length ≤ 1048576) (hd : Digs w) (hml : ML w) :
    Calls Tryd.prog 9 #[.slice A fs.length c, .int .i64 p] w fun e w' => e = .returned (.bool true) ∧ Fr No w w' := by
  have HD := Lib.hid hd
  have HM := Lib.hid hml
  have H := Lib.hid h
  have HIN := Lib.hid hi
  have HO : Hid (∀ f ∈ fs, f.cells.toArray.all (·.oneCell') = true) := Lib.hid (fun f hf => (hi f hf).one)
  have FEW := Lib.hid (fewF_any w A c fs 60 h hi hl (Nat.le_refl _))
  have SPA := Lib.hid (fun (w1 : World) (F : Fr No w w1) (h60 : fs.length ≤ 60) => spans_any w1 A c fs p (H.out.keep F (fun _ _ => id)) HO.out h60)
  have PLN := Lib.hid (fun (w1 : World) (F : Fr No w w1) (h60 : fs.length ≤ 60) => plainF_any w1 A c fs (H.out.keep F (fun _ _ => id)) HO.out h60)
  have REF := Lib.hid (fun (w1 : World) (S : Nat → Prop) (A2 : Option Addr) (c2 : Nat) (h2 : SlP S w1 A2 (FactsC fs)) (h60 : fs.length ≤ 60) => refSpans_any w1 A2 c2 fs p h2 HO.out h60)
  obtain ⟨n, hn⟩ : ∃ n, fs.length = n := ⟨_, rfl⟩
  rw [hn] at FEW SPA PLN REF ⊢
  have HNN := Lib.hid hn
  clear hd hml h hi hl hn
  go_enter Tryd.func9, Tryd.ntmps9
  go_wp2_with fail
  refine FEW.out.mono ?_
  rintro e w1 ⟨b, rfl, f1, hb⟩
  have F1 := Lib.hid f1
  clear f1
  cases b
  · go_wp2_with fail
    refine (awake_see _ (HD.out.keep F1.out) (HM.out.keep F1.out id)).mono ?_
    rintro e w5 ⟨rfl, f5⟩
    have F5 := Lib.hid (F1.out.trans f5)
    clear f5
    go_wp2
    go_ret
    exact ⟨rfl, F5.out⟩
  have h60 := Lib.hid (hb rfl)
  clear hb
  go_wp2_with fail
  refine (SPA.out w1 F1.out h60.out).mono ?_
  rintro e w2 ⟨v, rfl, o2, f2⟩
  have LN : Hid ((spanS p fs).1.length ≤ 60) := Lib.hid (by have := spanS_len p fs; have := h60.out; have := HNN.out; omega)
  obtain ⟨l, hl⟩ : ∃ l, (spanS p fs).1 = l := ⟨_, rfl⟩
  rw [hl] at o2 LN REF
  obtain ⟨A2, c2, rfl, -, -, s2⟩ := own_slp o2
  have F2 := Lib.hid (F1.out.trans f2)
  have S2 := Lib.hid s2
  obtain ⟨m, hm⟩ : ∃ m, l.length = m := ⟨_, rfl⟩
  rw [hm] at LN ⊢
  have HM2 := Lib.hid hm
  clear f2 s2 o2 hl hm
  have hm60 : (m : Int) ≤ 60 := by have := LN.out; omega
  go_wp2_with fail
  go_loopw [6, 7] (fun vo i wr => ∃ k : Nat, k ≤ m ∧ i = .int .i64 (k : Int) ∧ Hid (wr.ownsRow w2.heap.size 56 3 vo k (spanC (l.take k)) ∧ Fr No w2 wr)) (fun _ i _ => m - (intOf i).toNat)
  case atStart => exact ⟨0, Nat.zero_le _, rfl, Lib.hid ⟨World.ownsRow_nil _ _ _ _, Fr.refl _ _⟩⟩
  case round =>
    obtain ⟨k, hk, rfl, hI⟩ := hrel
    by_cases hlt : k < m
    · obtain ⟨⟨a1, a2, a3⟩, hx⟩ : ∃ x, l[k]? = some x := ⟨l[k]'(by rw [HM2.out]; exact hlt), List.getElem?_eq_getElem _⟩
      obtain ⟨b1, o1, rfl, _, x0, x1, x2⟩ := span_at (S2.out.keep hI.out.2 (fun _ _ => id)) hx
      simp only at x0 x1 x2
      have TK := Lib.hid (spanC_take hx)
      have HOW := Lib.hid hI.out.1
      have HF := Lib.hid hI.out.2
      clear hI hx
      obtain ⟨i0, hi, hz0, hz1, hz2⟩ := info_parts infoRsp
      go_wp2_with (at_builtin; go_loud (refine wpList_append_lies _ rfl _ _ 54 rfl w2.heap.size 56 i0 (.agg #[.int .u32 0, .int .i64 0, .int .i64 0]) 3 24 Tryd.underlying54 hi hz0 hz1 hz2 rfl (by decide) _ _ _ rfl (HOW.out.alloc _) ⟨wr.heap.size, 0, none⟩ 1 1 [.int .u32 a1, .int .i64 a2, .int .i64 a3] rfl rfl (new_cells0 _ _ rfl _ _) (by simp [Value.oneCell']) (by decide) (by have := LN.out; unfold maxLen; omega) (by have := LN.out; omega) (by have := HF.out.size; simp only [World.size_alloc]; omega) _ rfl ?_); intro g1 cap1 w4 hown1 hgrow1 hat1 hlt1)
      go_roundw
      case rel =>
        refine ⟨k + 1, by omega, by go_num, Lib.hid ⟨by rw [TK.out]; exact hown1, ?_⟩⟩
        exact (HF.out.alloc _).then_ (R' := fun k => w2.heap.size ≤ k) ((Fr.of_grown hgrow1).mono fun k hk => ((HOW.out.alloc (.cells #[.int .i64 0] 3)).lt k hk.symm).1) (fun i hi e => by omega)
      case measure => simp [intOf]; omega
    · have hkn : k = m := by omega
      subst hkn
      have e : l.take k = l := List.take_of_length_le (by rw [HM2.out]; exact Nat.le_refl _)
      have h1 := hI.out.1
      rw [e] at h1
      obtain ⟨A3, c3, rfl, -, -, s3⟩ := own_slp h1
      have S3 := Lib.hid s3
      have F3 := Lib.hid (F2.out.trans hI.out.2)
      clear hI h1 s3 e S2
      go_wp2_with fail
      refine (PLN.out wr F3.out h60.out).mono ?_
      rintro e w4 ⟨v4, rfl, o4, f4⟩
      rw [HNN.out] at o4
      obtain ⟨A4, c4, rfl, -, -, s4⟩ := own_slp o4
      have S4 := Lib.hid s4
      have F4 := Lib.hid (F3.out.trans f4)
      have S34 := Lib.hid (S3.out.keep f4 (fun _ _ => id))
      clear f4 o4 s4 S3
      go_wp2_with fail
      refine (REF.out w4 _ A4 c4 S4.out h60.out).mono ?_
      rintro e w5 ⟨v5, rfl, o5, f5⟩
      obtain ⟨A5, c5, rfl, -, -, s5⟩ := own_slp o5
      rw [HM2.out]
      have S5 := Lib.hid s5
      have F5 := Lib.hid (F4.out.trans f5)
      have S35 := Lib.hid (S34.out.keep f5 (fun _ _ => id))
      have SAME := Lib.hid (spansame_any w5 A3 A5 c3 c5 l S35.out S5.out (by rw [HM2.out]; exact LN.out))
      rw [HM2.out] at SAME
      clear f5 o5 s5 S34 S4
      go_wp2_with fail
      refine SAME.out.mono ?_
      rintro e w6 ⟨rfl, d6⟩
      have F6 := Lib.hid (F5.out.trans (d6.fr No))
      clear d6
      go_wp2_with fail
      refine (awake_see _ (HD.out.keep F6.out) (HM.out.keep F6.out id)).mono ?_
      rintro e w7 ⟨rfl, f7⟩
      have F7 := Lib.hid (F6.out.trans f7)
      clear f7
      go_wp2
      go_ret
      exact ⟨rfl, F7.out⟩

end Go.Proofs.YtoockgijliacdaaDoor
