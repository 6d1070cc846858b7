/- Contract of the reference's Spans. -/
import Derived.Test.YtoockgijliacdaaDoorSpd
import Derived.Shelf.RegionOpen
namespace Go.Proofs.YtoockgijliacdaaDoor
open Go.RowKit

theorem does_one (f : Fct) : (doesV f = 1) ↔ risesB f = true := by
  unfold doesV
  by_cases h : risesB f = true
  · rw [if_pos h]; simp [h]
  · rw [if_neg h]
    simp only [h, iff_false]
    repeat' split
    all_goals decide
theorem does_two (f : Fct) : (doesV f = 2) ↔ fallsB f = true := by
  unfold doesV
  by_cases h : risesB f = true
  · rw [if_pos h]
    have : fallsB f = false := by
      unfold risesB at h
      unfold fallsB
      simp only [Bool.and_eq_true, bne_iff_ne, beq_iff_eq] at h
      simp [h.1.2]
    simp [this]
  · rw [if_neg h]
    by_cases h2 : fallsB f = true
    · rw [if_pos h2]; simp [h2]
    · rw [if_neg h2]
      simp only [h2, iff_false]
      repeat' split
      all_goals decide
theorem spStep_does (p : Int) (s : List (Int × Int × Int) × Bool) (f : Fct) : spStep p s f = if f.peer ≠ p then s else if s.2 = false ∧ doesV f = 1 then (s.1 ++ [(f.id, f.step, -1)], true) else if s.2 = true ∧ doesV f = 2 then (setLast s.1 f.step, false) else s := by
  unfold spStep
  simp only [does_one, does_two]
theorem infoRsp : (Tryd.prog.info? 56).map (fun i => (i.zero, i.size, i.bytes)) = some (some (.agg #[.int .u32 0, .int .i64 0, .int .i64 0]), 3, 24) := by kernel_rfl

set_option maxRecDepth 100000 in
set_option maxHeartbeats 2000000 in
theorem refSpans_any {S : Nat → Prop} (w : World) (A : Option Addr) (c : Nat) (fs : List Fct) (p : Int) (h : SlP S w A (FactsC fs)) (ho : ∀ f ∈ fs, f.cells.toArray.all (·.oneCell') = true) (hl : fs.length ≤ 60) :
    Calls Tryd.prog 26 #[.slice A fs.length c, .int .i64 p] w fun e w' => ∃ v, e = .returned v ∧ w'.ownsRow w.heap.size 56 3 v (spanS p fs).1.length (spanC (spanS p fs).1) ∧ Fr No w w' := by
  have H := Lib.hid h
  have HO := Lib.hid ho
  obtain ⟨n, hn⟩ : ∃ n, fs.length = n := ⟨_, rfl⟩
  rw [hn] at hl ⊢
  have HN := Lib.hid hn
  have hl2 : (n : Int) ≤ 60 := by omega
  have START : Hid (SpI 56 w p fs 0 (.slice none 0 0) w) := Lib.hid ⟨World.ownsRow_nil _ _ _ _, Fr.refl _ _⟩
  clear h hn ho
  go_enter Tryd.func26, Tryd.ntmps26
  go_wp2_with fail
  go_loopw [5, 6, 7] (fun vo up i wr => ∃ (k : Nat) (b : Bool), k ≤ n ∧ i = .int .i64 (k : Int) ∧ up = .bool b ∧ Hid (SpI 56 w p fs k vo wr ∧ (spanS p (fs.take k)).2 = b)) (fun _ _ i _ => n - (intOf i).toNat)
  case atStart => exact ⟨0, false, Nat.zero_le _, rfl, rfl, Lib.hid ⟨START.out, rfl⟩⟩
  case round =>
    obtain ⟨k, up, hk, rfl, rfl, hh⟩ := hrel
    clear START
    by_cases hlt : k < n
    · obtain ⟨f, hx⟩ : ∃ x, fs[k]? = some x := ⟨fs[k]'(by rw [HN.out]; exact hlt), List.getElem?_eq_getElem _⟩
      have htk : fs.take (k + 1) = fs.take k ++ [f] := by
        have hlt2 : k < fs.length := by rw [HN.out]; exact hlt
        rw [List.take_succ_eq_append_getElem hlt2]
        rw [List.getElem?_eq_getElem hlt2] at hx
        injection hx with hx
        rw [hx]
      obtain ⟨b, o, rfl, hload⟩ := fact_load2 (P := Tryd.prog) 116 (Tryd.isAgg116 _) (Tryd.sizeOf116 _) (H.out.keep hh.out.1.fr (fun _ _ => id)) hx
      obtain ⟨cs, hcs⟩ : ∃ cs, f.cells.toArray = cs := ⟨_, rfl⟩
      rw [hcs] at hload
      have HFA : Hid (FA cs f) := Lib.hid ⟨hcs.symm⟩
      have HLD := Lib.hid hload
      have HI := Lib.hid hh.out.1
      have HUP := Lib.hid hh.out.2
      have ST : Hid (spanS p (fs.take (k + 1)) = spStep p (spanS p (fs.take k)) f) := Lib.hid (by rw [htk, spanS_snoc])
      have UPN : Hid (up = true → (spanS p (fs.take k)).1 ≠ []) := Lib.hid (fun e => spanS_up p (fs.take k) (by rw [hh.out.2]; exact e))
      have SLN : Hid ((spanS p (fs.take k)).1.length ≤ 60) := Lib.hid (by have := spanS_len p (fs.take k); simp at this; omega)
      have hsz : cs.size = 28 := HFA.out.size
      have HSZ := Lib.hid hsz
      have hone : cs.all (·.oneCell') = true := by rw [HFA.out.eq]; exact HO.out f (List.mem_of_getElem? hx)
      have HONE := Lib.hid hone
      have HAT : Hid (∀ j u, j < 28 → f.cells[j]? = some u → wr.cell? ⟨b, o + k * 28 + j, none⟩ = some u) := Lib.hid (fun j u hj hu => by
        obtain ⟨b', o', e, _, hc⟩ := (H.out.keep hh.out.1.fr (fun _ _ => id)) (by intro e; have := FactsC.at hx 0 (by omega); rw [e] at this; cases this)
        injection e with e
        injection e with e1 e2
        subst e1 e2
        rw [show o + k * 28 + j = o + (28 * k + j) by omega]
        exact hc _ _ ((FactsC.at hx j hj).trans hu))
      have HSL : Hid (SlP S wr (some ⟨b, o, none⟩) (FactsC fs)) := Lib.hid (H.out.keep hh.out.1.fr (fun _ _ => id))
      have x0 : wr.cell? ⟨b, o + k * 28, none⟩ = some (.int .i64 f.step) := HAT.out 0 _ (by omega) rfl
      have x2 : wr.cell? ⟨b, o + k * 28 + 2, none⟩ = some (.int .i64 f.peer) := HAT.out 2 _ (by omega) rfl
      clear hh hx htk hload hcs hsz hone
      by_cases hp : f.peer = p
      · go_wp2_with (first
        | (refine wpList_load_agg rfl 116 (.tmp 24) rfl ⟨b, o + k * 28, none⟩ rfl cs HLD.out ?_))
        refine (does_any cs f HFA.out HONE.out _).mono ?_
        rintro e w2 ⟨rfl, f2⟩
        have HI2 := Lib.hid (own_keep HI.out.own f2)
        have FW2 := Lib.hid (HI.out.fr.then_ f2 (fun _ _ => id))
        have HBLT : b < wr.heap.size := block_lt_of_cell x0
        have y0 : w2.cell? ⟨b, o + k * 28, none⟩ = some (.int .i64 f.step) := (World.cell?_of_block (w := wr) (f2.block _ HBLT id)).trans x0
        have y24 : w2.cell? ⟨b, o + k * 28 + 24, none⟩ = some (.int .u32 f.id) := (World.cell?_of_block (w := wr) (f2.block _ HBLT id)).trans (HAT.out 24 _ (by omega) rfl)
        clear f2 x0 x2
        obtain ⟨d, hd⟩ : ∃ d, doesV f = d := ⟨_, rfl⟩
        have HD := Lib.hid hd
        rw [hd]
        clear hd
        by_cases d1 : d = 1
        · subst d1
          rcases up with _ | _
          · obtain ⟨i0, hi, hz0, hz1, hz2⟩ := info_parts infoRsp
            have HI3 : Hid ((w2.drew.alloc (.cells #[.int .u32 f.id, .int .i64 f.step, .int .i64 (-1)] 56)).ownsRow w.heap.size 56 3 u5 (spanS p (fs.take k)).1.length (spanC (spanS p (fs.take k)).1)) := Lib.hid (World.ownsRow.alloc (w := w2.drew) HI2.out _)
            have HBASE : w.heap.size ≤ (w2.drew.alloc (.cells #[.int .u32 f.id, .int .i64 f.step, .int .i64 (-1)] 56)).heap.size := by have := FW2.out.size; simp; omega
            go_wp2_with fail
            go_region_law (refine step_append_lies _ rfl _ _ 54 rfl w.heap.size 56 i0 (.agg #[.int .u32 0, .int .i64 0, .int .i64 0]) 3 24 Tryd.underlying54 hi hz0 hz1 hz2 rfl (by decide) _ _ _ rfl HI3.out ⟨w2.heap.size, 0, none⟩ 1 1 [.int .u32 f.id, .int .i64 f.step, .int .i64 (-1)] rfl rfl (new_cells0 w2.drew _ rfl _ _) (by simp [Value.oneCell']) (by decide) (by have := SLN.out; unfold maxLen; omega) (by have := SLN.out; omega) HBASE _ rfl ?_; intro g1 cap1 w4 hown1 hgrow1 hat1 hlt1)
            all_goals go_wp2_with fail
            all_goals go_roundw
            all_goals first
            | (simp [intOf]; omega)
            | (
                have e : spStep p (spanS p (fs.take k)) f = ((spanS p (fs.take k)).1 ++ [(f.id, f.step, -1)], true) := by rw [spStep_does, if_neg (by simp [hp]), if_pos ⟨HUP.out, HD.out⟩]
                have hst := ST.out
                rw [e] at hst
                refine ⟨k + 1, true, by omega, by go_num, rfl, Lib.hid ?_⟩
                rw [hst]
                refine ⟨⟨?_, ?_⟩, rfl⟩
                · rw [hst]
                  simp only [List.length_append, List.length_cons, List.length_nil, Nat.zero_add, spanC_snoc]
                  exact hown1
                · exact (FW2.out.drew.alloc _).then_ (R' := fun k => w.heap.size ≤ k) ((Fr.of_grown hgrow1).mono fun k hk => (HI3.out.lt k hk.symm).1) (fun i hi e => by omega))
          · go_wp2_with fail
            go_roundw
            case rel =>
              have e : spStep p (spanS p (fs.take k)) f = spanS p (fs.take k) := by rw [spStep_does, if_neg (by simp [hp]), if_neg (by rw [HUP.out, HD.out]; simp), if_neg (by rw [HUP.out, HD.out]; simp)]
              have hst := ST.out
              rw [e] at hst
              refine ⟨k + 1, true, by omega, by go_num, rfl, Lib.hid ?_⟩
              rw [hst]
              exact ⟨⟨by rw [hst]; exact HI2.out, FW2.out⟩, HUP.out⟩
            case measure => simp [intOf]; omega
        · by_cases d2 : d = 2
          · subst d2
            rcases up with _ | _
            · go_wp2_with fail
              go_roundw
              case rel =>
                have e : spStep p (spanS p (fs.take k)) f = spanS p (fs.take k) := by rw [spStep_does, if_neg (by simp [hp]), if_neg (by rw [HUP.out, HD.out]; simp), if_neg (by rw [HUP.out, HD.out]; simp)]
                have hst := ST.out
                rw [e] at hst
                refine ⟨k + 1, false, by omega, by go_num, rfl, Lib.hid ?_⟩
                rw [hst]
                exact ⟨⟨by rw [hst]; exact HI2.out, FW2.out⟩, HUP.out⟩
              case measure => simp [intOf]; omega
            · obtain ⟨l, ⟨a1, a2, a3⟩, hla⟩ : ∃ l x, (spanS p (fs.take k)).1 = l ++ [x] := ⟨_, _, (List.dropLast_concat_getLast (UPN.out rfl)).symm⟩
              have h2 := HI2.out
              rw [hla] at h2
              simp only [List.length_append, List.length_cons, List.length_nil, Nat.zero_add] at h2
              obtain ⟨g, cap, rfl⟩ : ∃ g cap, u5 = .slice (some ⟨g, 0, none⟩) (l.length + 1) cap := by
                rcases h2.2 with ⟨_, h⟩ | ⟨g, cap, _, h, _⟩
                · omega
                · exact ⟨g, cap, h⟩
              have hlm : l.length ≤ 60 := by have := SLN.out; rw [hla] at this; simp at this; omega
              obtain ⟨m, hm⟩ : ∃ m, l.length = m := ⟨_, rfl⟩
              have HM := Lib.hid hm
              rw [hm] at h2 hlm ⊢
              have O2 := Lib.hid h2
              obtain ⟨hc, hfz⟩ := own_cell h2 (m * 3 + 2) (u := .int .i64 a3) (by rw [spanC_snoc, List.getElem?_append_right (by rw [spanC_len, hm]; omega), spanC_len, hm]; simp)
              have HLA := Lib.hid hla
              clear hm h2 hla
              have hlm2 : (m : Int) ≤ 60 := by omega
              have HB : w.heap.size ≤ g := (O2.out.lt g rfl).1
              go_wp2_with fail
              go_roundw
              case rel =>
                have e : spStep p (spanS p (fs.take k)) f = (l ++ [(a1, a2, f.step)], false) := by rw [spStep_does, if_neg (by simp [hp]), if_neg (by rw [HUP.out]; simp), if_pos ⟨HUP.out, HD.out⟩, HLA.out, setLast_snoc]
                have hst := ST.out
                rw [e] at hst
                refine ⟨k + 1, false, by omega, by go_num, rfl, Lib.hid ?_⟩
                rw [hst]
                refine ⟨⟨?_, ?_⟩, rfl⟩
                · rw [hst]
                  have := own_store O2.out (m * 3 + 2) (by omega) (.int .i64 f.step)
                  rw [← HM.out, spanC_set] at this
                  simp only [List.length_append, List.length_cons, List.length_nil, Nat.zero_add]
                  rw [HM.out] at this ⊢
                  exact this
                · exact FW2.out.setCell (p := ⟨g, m * 3 + 2, none⟩) (fun h => absurd h (by simp; omega)) _
              case measure => simp [intOf]; omega
          · go_wp2_with fail
            go_roundw
            case rel =>
              have e : spStep p (spanS p (fs.take k)) f = spanS p (fs.take k) := by rw [spStep_does, if_neg (by simp [hp]), if_neg (by rw [HUP.out, HD.out]; simp [d1]), if_neg (by rw [HUP.out, HD.out]; simp [d2])]
              have hst := ST.out
              rw [e] at hst
              refine ⟨k + 1, up, by omega, by go_num, rfl, Lib.hid ?_⟩
              rw [hst]
              exact ⟨⟨by rw [hst]; exact HI2.out, FW2.out⟩, HUP.out⟩
            case measure => simp [intOf]; omega
      · go_wp2_with fail
        go_roundw
        case rel =>
          have e : spStep p (spanS p (fs.take k)) f = spanS p (fs.take k) := by unfold spStep; rw [if_pos hp]
          refine ⟨k + 1, up, by omega, by go_num, rfl, Lib.hid ?_⟩
          have hst := ST.out
          rw [e] at hst
          rw [hst]
          exact ⟨⟨by rw [hst]; exact HI.out.own, HI.out.fr⟩, HUP.out⟩
        case measure => simp [intOf]; omega
    · have hkn : k = n := by omega
      subst hkn
      go_wp2_with fail
      go_ret
      have e : fs.take k = fs := List.take_of_length_le (by rw [HN.out]; exact Nat.le_refl _)
      have h1 := hh.out.1.own
      rw [e] at h1
      exact ⟨_, rfl, h1, hh.out.1.fr⟩

end Go.Proofs.YtoockgijliacdaaDoor
