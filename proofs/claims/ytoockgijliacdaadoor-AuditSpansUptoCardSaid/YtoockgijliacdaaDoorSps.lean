/- Contract of audit's Spans. -/
import Derived.Test.YtoockgijliacdaaDoorSpn
import Derived.Deep.AppendLies
import Derived.Test.YtoockgijliacdaaDoorAlj
namespace Go.Proofs.YtoockgijliacdaaDoor
open Go.RowKit

def FactsC (fs : List Fct) : List Value := (fs.map Fct.cells).flatten
theorem FactsC.at {fs : List Fct} {k : Nat} {f : Fct} (hk : fs[k]? = some f) (j : Nat) (hj : j < 28) : (FactsC fs)[28 * k + j]? = f.cells[j]? := by
  induction fs generalizing k with
  | nil => simp at hk
  | cons x t ih =>
    have e : (FactsC (x :: t)) = x.cells ++ FactsC t := rfl
    have hl : x.cells.length = 28 := rfl
    cases k with
    | zero =>
      simp at hk; subst hk
      rw [e, Nat.mul_zero, Nat.zero_add, List.getElem?_append_left (by omega)]
    | succ k =>
      simp at hk
      rw [e, List.getElem?_append_right (by omega), hl, show 28 * (k + 1) + j - 28 = 28 * k + j by omega]
      exact ih hk
theorem fact_load2 {P : Program} {S : Nat → Prop} {w : World} {A : Option Addr} {fs : List Fct} (t : TypeId) (hagg : (isAgg t).run P w = .ok true w) (hsz : (sizeOf t).run P w = .ok 28 w) (h : SlP S w A (FactsC fs)) {k : Nat} {f : Fct} (hk : fs[k]? = some f) :
    ∃ b o, A = some ⟨b, o, none⟩ ∧ (loadVar t ⟨b, o + k * 28, none⟩).run P w = .ok (.agg f.cells.toArray) w := by
  obtain ⟨b, o, e, _, hc⟩ := h (by intro e; have := FactsC.at hk 0 (by omega); rw [e] at this; cases this)
  refine ⟨b, o, e, ?_⟩
  have hl : (loadCells ⟨b, o + k * 28, none⟩ f.cells.length).run P w = .ok f.cells.toArray w :=
    run_loadCells_list (P := P) w ⟨b, o + k * 28, none⟩ f.cells (fun j v hj => by
      have hj2 : j < 28 := (List.getElem?_eq_some_iff.1 hj).1
      have e : (⟨b, o + k * 28, none⟩ : Addr).add j = ⟨b, o + (28 * k + j), none⟩ := by unfold Addr.add; split <;> simp_all <;> omega
      rw [e]
      exact hc _ _ ((FactsC.at hk j hj2).trans hj))
  have e28 : f.cells.length = 28 := rfl
  rw [e28] at hl
  simp [loadVar, Sem.run_bind, hagg, hsz, hl, Result.andThen]
/-- A cell of an own row is stored. -/
theorem own_store {w : World} {B g n cap size : Nat} {e : TypeId} {xs : List Value} (h : w.ownsRow B e size (.slice (some ⟨g, 0, none⟩) n cap) n xs) (j : Nat) (hj : j < n * size) (u : Value) :
    (w.setCell ⟨g, j, none⟩ u).ownsRow B e size (.slice (some ⟨g, 0, none⟩) n cap) n (xs.set j u) := by
  obtain ⟨h1, h2⟩ := h
  refine ⟨by simpa using h1, ?_⟩
  rcases h2 with ⟨h2, _⟩ | ⟨g', cap', cur, hv, hb, hg, hc, hm, hs, ht⟩
  · cases h2
  · injection hv with e1 _ e3
    injection e1 with e1
    injection e1 with e1
    subst e1 e3
    refine .inr ⟨g, cap, cur.setIfInBounds j u, rfl, hb, ?_, hc, hm, by simpa using hs, ?_⟩
    · simp [World.setCell, Array.getElem?_modify, hg]
    · rw [← ht]
      simp [List.take_set]
theorem own_cell {w : World} {B g n cap size : Nat} {e : TypeId} {xs : List Value} (h : w.ownsRow B e size (.slice (some ⟨g, 0, none⟩) n cap) n xs) (j : Nat) {u : Value} (hu : xs[j]? = some u) : w.cell? ⟨g, j, none⟩ = some u ∧ w.frozen? ⟨g, j, none⟩ = false := by
  constructor
  · have := h.cells (g := g) rfl j u hu
    have e : (⟨g, 0, none⟩ : Addr).add j = ⟨g, 0 + j, none⟩ := by unfold Addr.add; split <;> simp_all
    rw [e, Nat.zero_add] at this
    exact this
  · rcases h.2 with ⟨h2, _⟩ | ⟨g', cap', cur, hv, hb, hg, _⟩
    · cases h2
    · injection hv with e1 _ _
      injection e1 with e1
      injection e1 with e1
      subst e1
      simp [World.frozen?, hg]
theorem spanC_set (l : List (Int × Int × Int)) (a b c z : Int) : (spanC (l ++ [(a, b, c)])).set (l.length * 3 + 2) (.int .i64 z) = spanC (l ++ [(a, b, z)]) := by
  rw [spanC_snoc, spanC_snoc, ← spanC_len, List.set_append_right _ _ (by omega)]
  simp
theorem infoSp : (Tryd.prog.info? 57).map (fun i => (i.zero, i.size, i.bytes)) = some (some (.agg #[.int .u32 0, .int .i64 0, .int .i64 0]), 3, 24) := by kernel_rfl

theorem new_cells0 (W : World) (b : Nat) (hb : b = W.heap.size) (t : TypeId) (l : List Value) : ∀ j u, l[j]? = some u → (W.alloc (.cells l.toArray t)).cell? ((⟨b, 0, none⟩ : Addr).add j) = some u := fun j u hu => by
  subst hb
  have e : (⟨W.heap.size, 0, none⟩ : Addr).add j = ⟨W.heap.size, 0 + j, none⟩ := by unfold Addr.add; split <;> simp_all
  rw [e, Nat.zero_add]
  exact (Blk.new W t l.toArray).cell_ j (by simpa using hu)
theorem load_row_met {P : Program} {ops : Array Oper} {rest : List Oper} {o : Oper} {a : Act} {w : World} {Q : Exit → Act → World → Prop} (hw : Region.wanted o (yielded ops a.tmps) = true) (ty : TypeId) (x : Operand) (ho : o.op = .load ty x)
    (g : Nat) (hx : a.eval x = .pointer (some ⟨g, 0, none⟩)) (t : TypeId) (cs : Array Value) (fr : Nat × Nat) (d : TypeDesc) (hg : w.heap[g]? = some (.cells cs t fr))
    (hu : P.underlying ty = some d) (hd : (match d with | .struct _ | .array _ _ => true | _ => false) = true) (hi : (P.info? ty).map (·.size) = some cs.size)
    (h : wpList P ops Q rest (a.put o.dst (.agg cs)) w) : wpList P ops Q (o :: rest) a w :=
  wpList_met hw fun _ hK => wp_load_row ty x ho g hx t cs fr d hg hu hd hi (hK _ _ h)
structure SpI (t : TypeId) (w : World) (p : Int) (fs : List Fct) (k : Nat) (vo : Value) (wr : World) : Prop where
  own : wr.ownsRow w.heap.size t 3 vo (spanS p (fs.take k)).1.length (spanC (spanS p (fs.take k)).1)
  fr : Fr No w wr

set_option maxRecDepth 100000 in
set_option maxHeartbeats 2000000 in
theorem spans_any {S : Nat → Prop} (w : World) (A : Option Addr) (c : Nat) (fs : List Fct) (p : Int) (h : SlP S w A (FactsC fs)) (ho : ∀ f ∈ fs, f.cells.toArray.all (·.oneCell') = true) (hl : fs.length ≤ 60) :
    Calls Tryd.prog 24 #[.slice A fs.length c, .int .i64 p] w fun e w' => ∃ v, e = .returned v ∧ w'.ownsRow w.heap.size 57 3 v (spanS p fs).1.length (spanC (spanS p fs).1) ∧ Fr No w w' := by
  have H := Lib.hid h
  have HO := Lib.hid ho
  obtain ⟨n, hn⟩ : ∃ n, fs.length = n := ⟨_, rfl⟩
  rw [hn] at hl ⊢
  have HN := Lib.hid hn
  have hl2 : (n : Int) ≤ 60 := by omega
  have START : Hid (SpI 57 w p fs 0 (.slice none 0 0) w) := Lib.hid ⟨World.ownsRow_nil _ _ _ _, Fr.refl _ _⟩
  clear h hn ho
  go_enter Tryd.func24, Tryd.ntmps24
  go_wp2_with fail
  go_loopw [5, 6, 11] (fun vo up i wr => ∃ (k : Nat) (b : Bool), k ≤ n ∧ i = .int .i64 (k : Int) ∧ up = .bool b ∧ Hid (SpI 57 w p fs k vo wr ∧ (spanS p (fs.take k)).2 = b)) (fun _ _ i _ => n - (intOf i).toNat)
  case atStart => exact ⟨0, false, Nat.zero_le _, rfl, rfl, Lib.hid ⟨START.out, rfl⟩⟩
  case round =>
    obtain ⟨k, up, hk, rfl, rfl, hh⟩ := hrel
    clear START
    by_cases hlt : k < n
    · obtain ⟨f, hx⟩ : ∃ x, fs[k]? = some x := ⟨fs[k]'(by rw [HN.out]; exact hlt), List.getElem?_eq_getElem _⟩
      have htk : fs.take (k + 1) = fs.take k ++ [f] := by
        have hlt2 : k < fs.length := by rw [HN.out]; exact hlt
        rw [List.take_succ_eq_append_getElem hlt2]
        rw [List.getElem?_eq_getElem hlt2] at hx
        injection hx with hx
        rw [hx]
      obtain ⟨b, o, rfl, hload⟩ := fact_load2 (P := Tryd.prog) 102 (Tryd.isAgg102 _) (Tryd.sizeOf102 _) (H.out.keep hh.out.1.fr (fun _ _ => id)) hx
      obtain ⟨cs, hcs⟩ : ∃ cs, f.cells.toArray = cs := ⟨_, rfl⟩
      rw [hcs] at hload
      have HFA : Hid (FA cs f) := Lib.hid ⟨hcs.symm⟩
      have HLD := Lib.hid hload
      have HI := Lib.hid hh.out.1
      have HUP := Lib.hid hh.out.2
      have ST : Hid (spanS p (fs.take (k + 1)) = spStep p (spanS p (fs.take k)) f) := Lib.hid (by rw [htk, spanS_snoc])
      have UPN : Hid (up = true → (spanS p (fs.take k)).1 ≠ []) := Lib.hid (fun e => spanS_up p (fs.take k) (by rw [hh.out.2]; exact e))
      have SLN : Hid ((spanS p (fs.take k)).1.length ≤ 60) := Lib.hid (by have := spanS_len p (fs.take k); simp at this; omega)
      have hsz : cs.size = 28 := HFA.out.size
      have HSZ := Lib.hid hsz
      have hone : cs.all (·.oneCell') = true := by rw [HFA.out.eq]; exact HO.out f (List.mem_of_getElem? hx)
      have HONE := Lib.hid hone
      have F := Blk.new wr 102 cs
      have x2 : (wr.alloc (.cells cs 102)).cell? ⟨wr.heap.size, 2, none⟩ = some (.int .i64 f.peer) := F.cell_ 2 (by rw [HFA.out.eq]; rfl)
      have HF := Lib.hid F
      clear hh hx htk hload hcs hsz hone F
      by_cases hp : f.peer = p
      · rcases up with _ | _
        · go_wp2_with (first
        | (refine wpList_load_agg rfl 102 (.tmp 13) rfl ⟨b, o + k * 28, none⟩ rfl cs HLD.out ?_)
        | (refine wpList_store_row rfl 102 (.tmp 8) (.tmp 14) rfl wr.heap.size cs rfl rfl 102 _ (heap_last _ _ _ rfl) (by rw [HSZ.out]; kernel_rfl) (by rw [HSZ.out]; rfl) HONE.out ?_; rw [setRow_last _ _ _ _ _ rfl])
        | (refine load_row_met (by rfl) 102 (.tmp 8) rfl wr.heap.size rfl 102 cs (0, 0) _ (heap_last _ _ _ rfl) Tryd.underlying102 rfl (by rw [HSZ.out]; kernel_rfl) ?_))
          refine (rises_any cs f HFA.out _).mono ?_
          rintro e w2 ⟨rfl, f2⟩
          have F2 := Lib.hid f2
          have HB2 := Lib.hid (HF.out.keep f2 id)
          have HI2 := Lib.hid (own_keep (HI.out.own.alloc (.cells cs 102)) f2)
          have FW2 := Lib.hid ((HI.out.fr.alloc (.cells cs 102)).then_ f2 (fun _ _ => id))
          have SZ2 := Lib.hid f2.size
          clear f2 HF x2
          have x0 : w2.cell? ⟨wr.heap.size, 0, none⟩ = some (.int .i64 f.step) := HB2.out.cell_ 0 (by rw [HFA.out.eq]; rfl)
          have x24 : w2.cell? ⟨wr.heap.size, 24, none⟩ = some (.int .u32 f.id) := HB2.out.cell_ 24 (by rw [HFA.out.eq]; rfl)
          obtain ⟨r, hr⟩ : ∃ r, risesB f = r := ⟨_, rfl⟩
          have HR := Lib.hid hr
          rw [hr]
          clear hr
          rcases r with _ | _
          · go_wp2_with fail
            go_roundw
            case rel =>
              have e : spStep p (spanS p (fs.take k)) f = spanS p (fs.take k) := by unfold spStep; rw [if_neg (by simp [hp]), if_neg (by rw [HR.out]; simp), if_neg (by rw [HUP.out]; simp)]
              have hst := ST.out
              rw [e] at hst
              refine ⟨k + 1, false, by omega, by go_num, rfl, Lib.hid ?_⟩
              rw [hst]
              exact ⟨⟨by rw [hst]; exact HI2.out, FW2.out⟩, HUP.out⟩
            case measure => simp [intOf]; omega
          · obtain ⟨i0, hi, hz0, hz1, hz2⟩ := info_parts infoSp
            go_wp2_with (at_builtin; go_loud (refine wpList_append_lies _ rfl _ _ 52 rfl w.heap.size 57 i0 (.agg #[.int .u32 0, .int .i64 0, .int .i64 0]) 3 24 Tryd.underlying52 hi hz0 hz1 hz2 rfl (by decide) _ _ _ rfl (HI2.out.alloc _) ⟨w2.heap.size, 0, none⟩ 1 1 [.int .u32 f.id, .int .i64 f.step, .int .i64 (-1)] rfl rfl (new_cells0 _ _ rfl _ _) (by simp [Value.oneCell']) (by decide) (by have := SLN.out; unfold maxLen; omega) (by have := SLN.out; omega) (by have := FW2.out.size; simp only [World.size_alloc]; omega) _ rfl ?_); intro g1 cap1 w4 hown1 hgrow1 hat1 hlt1)
            go_roundw
            case rel =>
              have e : spStep p (spanS p (fs.take k)) f = ((spanS p (fs.take k)).1 ++ [(f.id, f.step, -1)], true) := by unfold spStep; rw [if_neg (by simp [hp]), if_pos ⟨HUP.out, HR.out⟩]
              have hst := ST.out
              rw [e] at hst
              refine ⟨k + 1, true, by omega, by go_num, rfl, Lib.hid ?_⟩
              rw [hst]
              refine ⟨⟨?_, ?_⟩, rfl⟩
              · rw [hst]
                simp only [List.length_append, List.length_cons, List.length_nil, Nat.zero_add, spanC_snoc]
                exact hown1
              · exact (FW2.out.alloc _).then_ (R' := fun k => w.heap.size ≤ k) ((Fr.of_grown hgrow1).mono fun k hk => ((HI2.out.alloc (.cells #[.int .i64 0] 3)).lt k hk.symm).1) (fun i hi e => by omega)
            case measure => simp [intOf]; omega
        · go_wp2_with (first
        | (refine wpList_load_agg rfl 102 (.tmp 13) rfl ⟨b, o + k * 28, none⟩ rfl cs HLD.out ?_)
        | (refine wpList_store_row rfl 102 (.tmp 8) (.tmp 14) rfl wr.heap.size cs rfl rfl 102 _ (heap_last _ _ _ rfl) (by rw [HSZ.out]; kernel_rfl) (by rw [HSZ.out]; rfl) HONE.out ?_; rw [setRow_last _ _ _ _ _ rfl])
        | (refine load_row_met (by rfl) 102 (.tmp 8) rfl wr.heap.size rfl 102 cs (0, 0) _ (heap_last _ _ _ rfl) Tryd.underlying102 rfl (by rw [HSZ.out]; kernel_rfl) ?_))
          refine (falls_any cs f HFA.out _).mono ?_
          rintro e w2 ⟨rfl, f2⟩
          have HB2 := Lib.hid (HF.out.keep f2 id)
          have HI2 := Lib.hid (own_keep (HI.out.own.alloc (.cells cs 102)) f2)
          have FW2 := Lib.hid ((HI.out.fr.alloc (.cells cs 102)).then_ f2 (fun _ _ => id))
          clear f2 HF x2
          have x0 : w2.cell? ⟨wr.heap.size, 0, none⟩ = some (.int .i64 f.step) := HB2.out.cell_ 0 (by rw [HFA.out.eq]; rfl)
          obtain ⟨r, hr⟩ : ∃ r, fallsB f = r := ⟨_, rfl⟩
          have HR := Lib.hid hr
          rw [hr]
          clear hr
          rcases r with _ | _
          · go_wp2_with fail
            go_roundw
            case rel =>
              have e : spStep p (spanS p (fs.take k)) f = spanS p (fs.take k) := by unfold spStep; rw [if_neg (by simp [hp]), if_neg (by rw [HUP.out]; simp), if_neg (by rw [HR.out]; simp)]
              have hst := ST.out
              rw [e] at hst
              refine ⟨k + 1, true, by omega, by go_num, rfl, Lib.hid ?_⟩
              rw [hst]
              exact ⟨⟨by rw [hst]; exact HI2.out, FW2.out⟩, HUP.out⟩
            case measure => simp [intOf]; omega
          · obtain ⟨l, ⟨a1, a2, a3⟩, hla⟩ : ∃ l x, (spanS p (fs.take k)).1 = l ++ [x] := ⟨_, _, (List.dropLast_concat_getLast (UPN.out trivial)).symm⟩
            have h2 := HI2.out
            rw [hla] at h2
            simp only [List.length_append, List.length_cons, List.length_nil, Nat.zero_add] at h2
            obtain ⟨g, cap, rfl⟩ : ∃ g cap, u5 = .slice (some ⟨g, 0, none⟩) (l.length + 1) cap := by
              rcases h2.2 with ⟨_, h⟩ | ⟨g, cap, _, h, _⟩
              · omega
              · exact ⟨g, cap, h⟩
            have hlm : l.length ≤ 60 := by have := SLN.out; rw [hla] at this; simp at this; omega
            obtain ⟨m, hm⟩ : ∃ m, l.length = m := ⟨_, rfl⟩
            have HM := Lib.hid hm
            rw [hm] at h2 hlm ⊢
            have O2 := Lib.hid h2
            obtain ⟨hc, hfz⟩ := own_cell h2 (m * 3 + 2) (u := .int .i64 a3) (by rw [spanC_snoc, List.getElem?_append_right (by rw [spanC_len, hm]; omega), spanC_len, hm]; simp)
            have HLA := Lib.hid hla
            clear hm h2 hla
            have hlm2 : (m : Int) ≤ 60 := by omega
            have HB : w.heap.size ≤ g := (O2.out.lt g rfl).1
            go_wp2_with fail
            go_roundw
            case rel =>
              have e : spStep p (spanS p (fs.take k)) f = (l ++ [(a1, a2, f.step)], false) := by unfold spStep; rw [if_neg (by simp [hp]), if_neg (by rw [HUP.out]; simp), if_pos ⟨HUP.out, HR.out⟩, HLA.out, setLast_snoc]
              have hst := ST.out
              rw [e] at hst
              refine ⟨k + 1, false, by omega, by go_num, rfl, Lib.hid ?_⟩
              rw [hst]
              refine ⟨⟨?_, ?_⟩, rfl⟩
              · rw [hst]
                have := own_store O2.out (m * 3 + 2) (by omega) (.int .i64 f.step)
                rw [← HM.out, spanC_set] at this
                simp only [List.length_append, List.length_cons, List.length_nil, Nat.zero_add]
                rw [HM.out] at this ⊢
                exact this
              · exact FW2.out.setCell (p := ⟨g, m * 3 + 2, none⟩) (fun h => absurd h (by simp; omega)) _
            case measure => simp [intOf]; omega
      · go_wp2_with (first
        | (refine wpList_load_agg rfl 102 (.tmp 13) rfl ⟨b, o + k * 28, none⟩ rfl cs HLD.out ?_)
        | (refine wpList_store_row rfl 102 (.tmp 8) (.tmp 14) rfl wr.heap.size cs rfl rfl 102 _ (heap_last _ _ _ rfl) (by rw [HSZ.out]; kernel_rfl) (by rw [HSZ.out]; rfl) HONE.out ?_; rw [setRow_last _ _ _ _ _ rfl])
        | (refine load_row_met (by rfl) 102 (.tmp 8) rfl wr.heap.size rfl 102 cs (0, 0) _ (heap_last _ _ _ rfl) Tryd.underlying102 rfl (by rw [HSZ.out]; kernel_rfl) ?_))
        go_roundw
        case rel =>
          have e : spStep p (spanS p (fs.take k)) f = spanS p (fs.take k) := by unfold spStep; rw [if_pos hp]
          refine ⟨k + 1, up, by omega, by go_num, rfl, Lib.hid ?_⟩
          have hst := ST.out
          rw [e] at hst
          rw [hst]
          exact ⟨⟨by rw [hst]; exact HI.out.own.alloc _, HI.out.fr.alloc _⟩, HUP.out⟩
        case measure => simp [intOf]; omega
    · have hkn : k = n := by omega
      subst hkn
      go_wp2_with fail
      go_ret
      have e : fs.take k = fs := List.take_of_length_le (by rw [HN.out]; exact Nat.le_refl _)
      have h1 := hh.out.1.own
      rw [e] at h1
      exact ⟨_, rfl, h1, hh.out.1.fr⟩

end Go.Proofs.YtoockgijliacdaaDoor
