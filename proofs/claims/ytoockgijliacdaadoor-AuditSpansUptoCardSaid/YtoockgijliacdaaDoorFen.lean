/- Contract: are facts few and small enough? Some answer is given, and few there are if they are. -/
import Derived.Test.YtoockgijliacdaaDoorFel
namespace Go.Proofs.YtoockgijliacdaaDoor
open Go.RowKit

/-- What is known of a fact that came in. -/
structure FctIn (w : World) (f : Fct) : Prop where
  id0 : 0 ≤ f.id
  id1 : f.id ≤ 4294967295
  sent : ∃ A l c, f.sent = .slice A l c ∧ l ≤ 1048576 ∧ Tr w 88 [.slice A l c]
  fdata : ∃ A l c, f.fdata = .slice A l c ∧ l ≤ 1048576 ∧ Tr w 39 [.slice A l c]
  gone : ∃ A l c, f.gone = .slice A l c ∧ l ≤ 1048576
  path : ∃ A l c, f.path = .slice A l c ∧ l ≤ 1048576 ∧ Tr w 94 [.slice A l c]
  comms : ∃ A l c, f.comms = .slice A l c ∧ l ≤ 1048576
  raws : ∃ A l c, f.raws = .slice A l c ∧ l ≤ 1048576 ∧ Tr w 95 [.slice A l c]
  news : ∃ A l c, f.news = .slice A l c ∧ l ≤ 1048576
  rules : ∃ A l c, f.rules = .slice A l c ∧ l ≤ 1048576 ∧ Tr w 100 [.slice A l c]

theorem Tr.sized2 {w : World} {t e : TypeId} {v : Value} (hu : Tryd.prog.underlying t = some (.slice e)) (h : Tr w t [v]) :
    ∃ A len cap, v = .slice A len cap ∧ len ≤ 1048576 ∧ Tr w t [.slice A len cap] := by
  obtain ⟨A, len, cap, e, h1⟩ := Tr.sized hu h
  injection e with e _
  subst e
  exact ⟨A, len, cap, rfl, h1, h⟩
theorem fact_in {w : World} {cs : List Value} (h : Tr w 102 cs) : ∃ f : Fct, cs = f.cells ∧ FctIn w f := by
  obtain ⟨f, e, h0, h1, h2, h3, h4, h5, h6, h7, h8, h9⟩ := fact_parts h
  obtain ⟨a1, a2, a3, g1, g2, g3⟩ := Tr.sized2 Tryd.underlying93 h4
  obtain ⟨b1, b2, b3, k1, k2, k3⟩ := Tr.sized2 Tryd.underlying26 h6
  obtain ⟨c1, c2, c3, m1, m2, m3⟩ := Tr.sized2 Tryd.underlying93 h8
  exact ⟨f, e, h0, h1, Tr.sized2 Tryd.underlying88 h2, Tr.sized2 Tryd.underlying39 h3, ⟨a1, a2, a3, g1, g2⟩, Tr.sized2 Tryd.underlying94 h5, ⟨b1, b2, b3, k1, k2⟩, Tr.sized2 Tryd.underlying95 h7, ⟨c1, c2, c3, m1, m2⟩, Tr.sized2 Tryd.underlying100 h9⟩
theorem FctIn.one {w : World} {f : Fct} (h : FctIn w f) : f.cells.toArray.all (·.oneCell') = true := by
  obtain ⟨_, _, ⟨_, _, _, e1, _⟩, ⟨_, _, _, e2, _⟩, ⟨_, _, _, e3, _⟩, ⟨_, _, _, e4, _⟩, ⟨_, _, _, e5, _⟩, ⟨_, _, _, e6, _⟩, ⟨_, _, _, e7, _⟩, ⟨_, _, _, e8, _⟩⟩ := h
  unfold Fct.cells
  rw [e1, e2, e3, e4, e5, e6, e7, e8]
  simp [Value.oneCell']

theorem load_agg_met {P : Program} {ops : Array Oper} {rest : List Oper} {o : Oper} {a : Act} {w : World} {Q : Exit → Act → World → Prop} (hw : Region.wanted o (yielded ops a.tmps) = true) (ty : TypeId) (x : Operand) (ho : o.op = .load ty x)
    (ad : Addr) (hx : a.eval x = .pointer (some ad)) (cs : Array Value) (hl : (loadVar ty ad).run P w = .ok (.agg cs) w)
    (h : wpList P ops Q rest (a.put o.dst (.agg cs)) w) : wpList P ops Q (o :: rest) a w :=
  wpList_met hw fun _ hK => by
    have h' := hK _ _ h
    unfold Oper.wp execOp
    simp only [ho, hx, Instr.loadAt, Instr.sureAddr, Sem.run_bind, Sem.run_pure, Result.andThen_ok, hl]
    exact h'

def FewP (w : World) (n m : Nat) (e : Ending) (w' : World) : Prop := ∃ b, e = .returned (.bool b) ∧ Fr No w w' ∧ (b = true → n ≤ m)

set_option maxRecDepth 100000 in
set_option maxHeartbeats 8000000 in
theorem fewF_any {S : Nat → Prop} (w : World) (A : Option Addr) (c : Nat) (fs : List Fct) (m : Nat) (h : SlP S w A (FactsC fs)) (hi : ∀ f ∈ fs, FctIn w f) (hl : fs.length ≤ 1048576) (hm : m ≤ 60) :
    Calls Tryd.prog 23 #[.slice A fs.length c, .int .i64 m] w (FewP w fs.length m) := by
  have H := Lib.hid h
  have HIN := Lib.hid hi
  obtain ⟨n, hn⟩ : ∃ n, fs.length = n := ⟨_, rfl⟩
  rw [hn] at hl ⊢
  have HN := Lib.hid hn
  have hl2 : (n : Int) ≤ 1048576 := by omega
  clear h hn hi
  go_enter Tryd.func23, Tryd.ntmps23
  by_cases hmn : m < n
  · go_wp2_with fail
    go_ret
    exact ⟨_, rfl, Fr.refl _ _, fun h => by cases h⟩
  have hd1 : decide (m < n) = false := decide_eq_false hmn
  have hd2 : decide ((m : Int) < (n : Int)) = false := decide_eq_false (by omega)
  go_wp2_with fail
  have HLE : Hid (n ≤ m) := Lib.hid (by omega)
  go_loopw [5] (fun i wr => ∃ k : Nat, k ≤ n ∧ i = .int .i64 (k : Int) ∧ Hid (Fr No w wr)) (fun i _ => n - (intOf i).toNat)
  case atStart => exact ⟨0, Nat.zero_le _, rfl, Lib.hid (Fr.refl _ _)⟩
  case round =>
    obtain ⟨k, hk, rfl, hI⟩ := hrel
    by_cases hlt : k < n
    · obtain ⟨f, hx⟩ : ∃ x, fs[k]? = some x := ⟨fs[k]'(by rw [HN.out]; exact hlt), List.getElem?_eq_getElem _⟩
      have hin := HIN.out f (List.mem_of_getElem? hx)
      have HONE : Hid (f.cells.toArray.all (·.oneCell') = true) := Lib.hid hin.one
      obtain ⟨b, o, rfl, hload⟩ := fact_load2 (P := Tryd.prog) 102 (Tryd.isAgg102 _) (Tryd.sizeOf102 _) (H.out.keep hI.out (fun _ _ => id)) hx
      obtain ⟨_, _, ⟨A1, l1, c1, e1, g1, _⟩, ⟨A2, l2, c2, e2, g2, _⟩, ⟨A3, l3, c3, e3, g3⟩, ⟨A4, l4, c4, e4, g4, t4⟩, ⟨A5, l5, c5, e5, g5⟩, ⟨A6, l6, c6, e6, g6, t6⟩, ⟨A7, l7, c7, e7, g7⟩, ⟨A8, l8, c8, e8, g8, t8⟩⟩ := hin
      have T4 := Lib.hid t4
      have T6 := Lib.hid t6
      have T8 := Lib.hid t8
      obtain ⟨cs, hcs⟩ : ∃ cs, f.cells.toArray = cs := ⟨_, rfl⟩
      have HCS : Hid (cs = f.cells.toArray) := Lib.hid hcs.symm
      rw [hcs] at hload HONE
      have HLD := Lib.hid hload
      have HSZ : Hid (cs.size = 28) := Lib.hid (by rw [← hcs]; rfl)
      have F := Blk.new wr 102 cs
      have HF := Lib.hid F
      obtain ⟨v0, v2, v3, v4, v5, v6, v7, v8, hv⟩ : ∃ (v0 v2 v3 v4 : Int) (v5 v6 : Bool) (v7 v8 : Int), f.orig = v0 ∧ f.nxt = v2 ∧ f.med = v3 ∧ f.pref = v4 ∧ f.atomic = v5 ∧ f.hasAggr = v6 ∧ f.aggrAS = v7 ∧ f.aggrAddr = v8 := ⟨_, _, _, _, _, _, _, _, rfl, rfl, rfl, rfl, rfl, rfl, rfl, rfl⟩
      have CELL : Hid (∀ (W : World), Blk W wr.heap.size 102 cs → ∀ j u, f.cells[j]? = some u → W.cell? ⟨wr.heap.size, j, none⟩ = some u) := Lib.hid (fun W hB j u hu => hB.cell_ j (by rw [HCS.out]; simpa using hu))
      have EC : Hid (f.cells = [.int .i64 f.step, .int .i64 f.kind, .int .i64 f.peer, .int .i64 f.dir, .int .i64 f.ev, .int .i64 f.frm, .int .i64 f.to, .slice A1 l1 c1, .int .i64 f.fcode, .int .i64 f.fsub, .slice A2 l2 c2, .slice A3 l3 c3, .int .i64 v0, .slice A4 l4 c4, .int .u32 v2, .int .i64 v3, .int .i64 v4, .bool v5, .bool v6, .int .u32 v7, .int .u32 v8, .slice A5 l5 c5, .slice A6 l6 c6, .slice A7 l7 c7, .int .u32 f.id, .bool f.outs, .slice A8 l8 c8, .int .i64 f.commit]) := Lib.hid (by
        obtain ⟨q0, q2, q3, q4, q5, q6, q7, q8⟩ := hv
        unfold Fct.cells
        rw [e1, e2, e3, e4, e5, e6, e7, e8, q0, q2, q3, q4, q5, q6, q7, q8])
      clear hv e1 e2 e3 e4 e5 e6 e7 e8 t4 t6 t8 hx hload hcs F
      obtain ⟨c11, hc11⟩ : ∃ c : Array Value, #[.int .i64 v0, .slice A4 l4 c4, .int .u32 v2, .int .i64 v3, .int .i64 v4, .bool v5, .bool v6, .int .u32 v7, .int .u32 v8, .slice A5 l5 c5, .slice A6 l6 c6] = c := ⟨_, rfl⟩
      have H11 : Hid (c11.size = 11) := Lib.hid (by rw [← hc11]; rfl)
      have HO11 : Hid (c11.all (·.oneCell') = true) := Lib.hid (by rw [← hc11]; simp [Value.oneCell'])
      have LD11 : Hid ((loadVar 97 ⟨wr.heap.size, 12, none⟩).run Tryd.prog (wr.alloc (.cells cs 102)) = .ok (.agg c11) (wr.alloc (.cells cs 102))) :=
        Lib.hid (load_at _ _ 12 11 _ c11 (fun j hj v hv => CELL.out _ HF.out (12 + j) v (by
          rw [EC.out, ← hv, ← hc11]
          rcases (by omega : j = 0 ∨ j = 1 ∨ j = 2 ∨ j = 3 ∨ j = 4 ∨ j = 5 ∨ j = 6 ∨ j = 7 ∨ j = 8 ∨ j = 9 ∨ j = 10) with rfl | rfl | rfl | rfl | rfl | rfl | rfl | rfl | rfl | rfl | rfl <;> rfl)) H11.out (Tryd.isAgg97 _) (Tryd.sizeOf97 _))
      have LD13 : Hid (∀ W, Blk W wr.heap.size 102 cs → (loadVar 99 ⟨wr.heap.size, 11, none⟩).run Tryd.prog W = .ok (.agg #[.slice A3 l3 c3, .int .i64 v0, .slice A4 l4 c4, .int .u32 v2, .int .i64 v3, .int .i64 v4, .bool v5, .bool v6, .int .u32 v7, .int .u32 v8, .slice A5 l5 c5, .slice A6 l6 c6, .slice A7 l7 c7]) W) :=
        Lib.hid (fun W hB => load_at _ _ 11 13 _ _ (fun j hj v hv => CELL.out _ hB (11 + j) v (by
          rw [EC.out, ← hv]
          rcases (by omega : j = 0 ∨ j = 1 ∨ j = 2 ∨ j = 3 ∨ j = 4 ∨ j = 5 ∨ j = 6 ∨ j = 7 ∨ j = 8 ∨ j = 9 ∨ j = 10 ∨ j = 11 ∨ j = 12) with rfl | rfl | rfl | rfl | rfl | rfl | rfl | rfl | rfl | rfl | rfl | rfl | rfl <;> rfl)) rfl (Tryd.isAgg99 _) (Tryd.sizeOf99 _))
      have T := Blk.new (wr.alloc (.cells cs 102)) 97 c11
      rw [World.size_alloc] at T
      have HT := Lib.hid T
      have HF' := Lib.hid (HF.out.alloc (.cells c11 97))
      have F1 : Hid (Fr No w ((wr.alloc (.cells cs 102)).alloc (.cells c11 97))) := Lib.hid ((hI.out.alloc _).alloc _)
      have x7 := CELL.out _ HF'.out 7 (.slice A1 l1 c1) (by rw [EC.out]; rfl)
      have x10 := CELL.out _ HF'.out 10 (.slice A2 l2 c2) (by rw [EC.out]; rfl)
      have a1 : (l1 : Int) ≤ 1048576 := by omega
      have a2 : (l2 : Int) ≤ 1048576 := by omega
      have a4 : (l4 : Int) ≤ 1048576 := by omega
      have HG := Lib.hid (And.intro g3 (And.intro g4 (And.intro g5 (And.intro g6 (And.intro g7 g8)))))
      have HLD13 := Lib.hid (LD13.out _ HF'.out)
      clear T g1 g2 g3 g4 g5 g6 g7 g8
      obtain ⟨b1, h1⟩ : ∃ b, decide ((20 : Int) < (l1 : Int)) = b := ⟨_, rfl⟩
      obtain ⟨b2, h2⟩ : ∃ b, decide ((300 : Int) < (l2 : Int)) = b := ⟨_, rfl⟩
      go_wp2_with (first
        | (refine wpList_load_agg rfl 102 (.tmp 20) rfl ⟨b, o + k * 28, none⟩ rfl cs HLD.out ?_)
        | (refine wpList_store_row rfl 102 (.tmp 6) (.tmp 21) rfl wr.heap.size cs rfl rfl 102 _ (heap_last _ _ _ rfl) (by rw [HSZ.out]; kernel_rfl) (by rw [HSZ.out]; rfl) HONE.out ?_; rw [setRow_last _ _ _ _ _ rfl])
        | (refine wpList_load_agg rfl 97 (.tmp 23) rfl ⟨wr.heap.size, 12, none⟩ rfl c11 LD11.out ?_)
        | (refine wpList_store_row rfl 97 (.tmp 7) (.tmp 24) rfl (wr.heap.size + 1) c11 rfl rfl 97 _ (heap_last _ _ _ (by simp)) (by rw [H11.out]; kernel_rfl) (by rw [H11.out]; rfl) HO11.out ?_; rw [setRow_last _ _ _ _ _ (by simp)])
        | (refine load_agg_met (by rfl) 99 (.tmp 39) rfl ⟨wr.heap.size, 11, none⟩ rfl _ HLD13.out ?_))
      all_goals try (go_ret; exact ⟨_, rfl, F1.out, fun h => by cases h⟩)
      refine (few5_any w _ (hI.out.trans (((Fr.refl No wr).alloc (.cells cs 102)).alloc (.cells c11 97))) 20 v0 v2 v3 v4 v7 v8 v5 v6 A4 l4 c4 A5 l5 c5 A6 l6 c6 A3 l3 c3 A7 l7 c7 T4.out HG.out.2.1 T6.out HG.out.2.2.1 HG.out.2.2.2.1 HG.out.1 HG.out.2.2.2.2.1).mono ?_
      rintro e w2 ⟨⟨r5, rfl⟩, f2⟩
      have F2 := Lib.hid (F1.out.trans f2)
      have HF2 := Lib.hid (HF'.out.keep f2 id)
      have HT2 := Lib.hid (HT.out.keep f2 id)
      have x26 := CELL.out _ HF2.out 26 (.slice A8 l8 c8) (by rw [EC.out]; rfl)
      clear f2 x7 x10 HLD HLD13 LD13 LD11 HF HF' HT F1
      cases r5
      · go_wp2_with fail
        go_ret
        exact ⟨_, rfl, F2.out, fun h => by cases h⟩
      go_wp2_with fail
      refine (few14_any w _ F2.out A8 l8 c8 T8.out HG.out.2.2.2.2.2).mono ?_
      rintro e w3 ⟨⟨r14, rfl⟩, f3⟩
      have F3 := Lib.hid (F2.out.trans f3)
      have HT3 := Lib.hid (HT2.out.keep f3 id)
      have y1 : w3.cell? ⟨wr.heap.size + 1, 1, none⟩ = some (.slice A4 l4 c4) := HT3.out.cell_ 1 (by rw [← hc11]; rfl)
      clear f3 x26
      cases r14
      · go_wp2_with fail
        go_ret
        exact ⟨_, rfl, F3.out, fun h => by cases h⟩
      go_wp2_with fail
      refine (flat_any w _ F3.out A4 l4 c4 T4.out).mono ?_
      rintro e w4 ⟨A, l, cc, rfl, hl4, f4⟩
      have F4 := Lib.hid (F3.out.trans f4)
      have HT4 := Lib.hid (HT3.out.keep f4 id)
      have z3 : w4.cell? ⟨wr.heap.size + 1, 3, none⟩ = some (.int .i64 v3) := HT4.out.cell_ 3 (by rw [← hc11]; rfl)
      have z4 : w4.cell? ⟨wr.heap.size + 1, 4, none⟩ = some (.int .i64 v4) := HT4.out.cell_ 4 (by rw [← hc11]; rfl)
      have hl5 : (l : Int) ≤ 1099511627776 := by omega
      clear f4 y1 hl4
      go_wp2_with fail
      all_goals first
        | (go_ret; exact ⟨_, rfl, F4.out, fun h => by cases h⟩)
        | skip
      go_roundw
      case rel => exact ⟨k + 1, by omega, by go_num, F4⟩
      case measure => simp [intOf]; omega
    · have hkn : k = n := by omega
      subst hkn
      go_wp2_with fail
      go_ret
      exact ⟨_, rfl, hI.out, fun _ => HLE.out⟩

end Go.Proofs.YtoockgijliacdaaDoor
