/- Contracts: Legal at two commits with one number. -/
import Derived.Test.YtoockgijliacdaaDoorOwn
import Derived.Deep.WholeRow
import Derived.Laws.BytesArg
namespace Go.Proofs.YtoockgijliacdaaDoor
open Go.RowKit

def fact2 : Array Value := #[.int .i64 0, .int .i64 2, .int .i64 0, .int .i64 0, .int .i64 0, .int .i64 0, .int .i64 0, .slice none 0 0, .int .i64 0, .int .i64 0, .slice none 0 0, .slice none 0 0, .int .i64 0, .slice none 0 0, .int .u32 0, .int .i64 0, .int .i64 0, .bool false, .bool false, .int .u32 0, .int .u32 0, .slice none 0 0, .slice none 0 0, .slice none 0 0, .int .u32 0, .bool false, .slice none 0 0, .int .i64 1]
def facts2 : Array Value := #[.int .i64 0, .int .i64 2, .int .i64 0, .int .i64 0, .int .i64 0, .int .i64 0, .int .i64 0, .slice none 0 0, .int .i64 0, .int .i64 0, .slice none 0 0, .slice none 0 0, .int .i64 0, .slice none 0 0, .int .u32 0, .int .i64 0, .int .i64 0, .bool false, .bool false, .int .u32 0, .int .u32 0, .slice none 0 0, .slice none 0 0, .slice none 0 0, .int .u32 0, .bool false, .slice none 0 0, .int .i64 1, .int .i64 0, .int .i64 2, .int .i64 0, .int .i64 0, .int .i64 0, .int .i64 0, .int .i64 0, .slice none 0 0, .int .i64 0, .int .i64 0, .slice none 0 0, .slice none 0 0, .int .i64 0, .slice none 0 0, .int .u32 0, .int .i64 0, .int .i64 0, .bool false, .bool false, .int .u32 0, .int .u32 0, .slice none 0 0, .slice none 0 0, .slice none 0 0, .int .u32 0, .bool false, .slice none 0 0, .int .i64 1]

theorem wpList_load_agg {P : Program} {ops : Array Oper} {rest : List Oper} {o : Oper} {a : Act} {w : World} {Q : Exit → Act → World → Prop} (hgd : o.guard = none) (ty : TypeId) (x : Operand) (ho : o.op = .load ty x)
    (ad : Addr) (hx : a.eval x = .pointer (some ad)) (cs : Array Value) (hl : (loadVar ty ad).run P w = .ok (.agg cs) w)
    (h : wpList P ops Q rest (a.put o.dst (.agg cs)) w) : wpList P ops Q (o :: rest) a w :=
  wpList_plain hgd fun K hK => by
    have h' := hK _ _ h
    unfold Oper.wp execOp
    simp only [ho, hx, Instr.loadAt, Instr.sureAddr, Sem.run_bind, Sem.run_pure, Result.andThen_ok, hl]
    exact h'
theorem heap_last (X : World) (o : Obj) (g : Nat) (hg : g = X.heap.size) : (X.alloc o).heap[g]? = some o := by subst hg; exact heap_alloc_last X o
theorem setRow_last (X : World) (c c' : Array Value) (t : TypeId) (g : Nat) (hg : g = X.heap.size) : (X.alloc (.cells c t)).setRow g c' = X.alloc (.cells c' t) := by subst hg; exact World.setRow_alloc_new X c c' t
theorem fact_load {w : World} {b : Nat} (h : Blk w b 102 facts2) (k : Nat) (hk : k < 2) : (loadVar 102 ⟨b, k * 28, none⟩).run Tryd.prog w = .ok (.agg fact2) w := by
  have hl : (loadCells ⟨b, k * 28, none⟩ fact2.toList.length).run Tryd.prog w = .ok fact2.toList.toArray w :=
    run_loadCells_list (P := Tryd.prog) w ⟨b, k * 28, none⟩ fact2.toList (fun j v hj => by
      have e : (⟨b, k * 28, none⟩ : Addr).add j = ⟨b, k * 28 + j, none⟩ := by unfold Addr.add; split <;> simp_all
      rw [e]
      refine h.cell_ _ ?_
      have hj2 : j < 28 := (List.getElem?_eq_some_iff.1 hj).1
      have e2 : facts2[k * 28 + j]? = fact2.toList[j]? := by
        rcases (by omega : k = 0 ∨ k = 1) with rfl | rfl
        · rw [← Array.getElem?_toList, show facts2.toList = fact2.toList ++ fact2.toList from rfl, Nat.zero_mul, Nat.zero_add, List.getElem?_append_left hj2]
        · rw [← Array.getElem?_toList, show facts2.toList = fact2.toList ++ fact2.toList from rfl, List.getElem?_append_right (by show 28 ≤ _; omega)]
          congr 1
          show 1 * 28 + j - 28 = j
          omega
      rw [e2]
      exact hj)
  have hagg : (isAgg 102).run Tryd.prog w = .ok true w := Tryd.isAgg102 w
  have hsz : (sizeOf 102).run Tryd.prog w = .ok 28 w := Tryd.sizeOf102 w
  have e28 : fact2.toList.length = 28 := rfl
  rw [e28] at hl
  simp [loadVar, Sem.run_bind, hagg, hsz, hl, Result.andThen]

set_option maxRecDepth 100000 in
set_option maxHeartbeats 1000000 in
theorem can_two (w : World) (g : Nat) (cm : Int) (hcm : cm = 0 ∨ cm = 1) (h : Blk w g 138 #[.int .i64 0, .int .i64 cm, .int .i64 0, .int .i64 0, .int .i64 0, .int .i64 0, .int .i64 0, .int .i64 0, .int .i64 0, .int .i64 0, .int .i64 0, .int .i64 0, .int .i64 0, .int .i64 0]) :
    Calls Tryd.prog 69 #[.pointer (some ⟨g, 0, none⟩), .agg fact2] w fun e w' => e = .returned (.bool (cm == 0)) ∧ Blk w' g 138 #[.int .i64 0, .int .i64 (cm + 1), .int .i64 0, .int .i64 0, .int .i64 0, .int .i64 0, .int .i64 0, .int .i64 0, .int .i64 0, .int .i64 0, .int .i64 0, .int .i64 0, .int .i64 0, .int .i64 0] ∧ Fr (fun k => k = g) w w' := by
  go_enter Tryd.func69, Tryd.ntmps69
  have hg := h.lt
  have hz : (0 : Int) = 0 := rfl
  have F := Blk.new w 102 fact2
  have G := h.alloc (.cells fact2 102)
  have FR : Hid (Fr (fun k => k = g) w (w.alloc (.cells fact2 102))) := Lib.hid ((Fr.refl _ w).alloc _)
  have x0 : (w.alloc (.cells fact2 102)).cell? ⟨w.heap.size, 0, none⟩ = some (.int .i64 0) := F.cell_ 0 rfl
  have x1 : (w.alloc (.cells fact2 102)).cell? ⟨w.heap.size, 1, none⟩ = some (.int .i64 2) := F.cell_ 1 rfl
  have y0 := G.cell_ 0 rfl
  have y0f := G.frozen 0
  have F0 := Lib.hid F
  have G0 := Lib.hid G
  have HCM := Lib.hid hcm
  have HG := Lib.hid hg
  clear F G h hz hcm
  go_wp2_with fail
  go_quiet (fail)
  have hg := HG.out
  have hcm := HCM.out
  have F : Blk ((w.alloc (.cells fact2 102)).drewN nq) w.heap.size 102 fact2 := F0.out.drewN nq
  have G : Blk ((w.alloc (.cells fact2 102)).drewN nq) g 138 #[.int .i64 0, .int .i64 cm, .int .i64 0, .int .i64 0, .int .i64 0, .int .i64 0, .int .i64 0, .int .i64 0, .int .i64 0, .int .i64 0, .int .i64 0, .int .i64 0, .int .i64 0, .int .i64 0] := G0.out.drewN nq
  have f1x := F.cell_ 1 rfl
  have y0 := G.cell_ 0 rfl
  have y0f := G.frozen 0
  have s0 := G.set 0 (.int .i64 0)
  have f0 := F.far (p := ⟨g, 0, none⟩) (by show w.heap.size ≠ g; omega) (.int .i64 0)
  have a1 := s0.cell_ 1 rfl
  have a1f := s0.frozen 1
  have b1 : (((w.alloc (.cells fact2 102)).drewN nq).setCell ⟨g, 0, none⟩ (.int .i64 0)).cell? ⟨w.heap.size, 1, none⟩ = some (.int .i64 2) := f0.cell_ 1 rfl
  have s1 := s0.set 1 (.int .i64 (cm + 1))
  have f1 := f0.far (p := ⟨g, 1, none⟩) (by show w.heap.size ≠ g; omega) (.int .i64 (cm + 1))
  have c1 := s1.cell_ 1 rfl
  have d1 : ((((w.alloc (.cells fact2 102)).drewN nq).setCell ⟨g, 0, none⟩ (.int .i64 0)).setCell ⟨g, 1, none⟩ (.int .i64 (cm + 1))).cell? ⟨w.heap.size, 27, none⟩ = some (.int .i64 1) := f1.cell_ 27 rfl
  have GG : Hid (Blk ((((w.alloc (.cells fact2 102)).drewN nq).setCell ⟨g, 0, none⟩ (.int .i64 0)).setCell ⟨g, 1, none⟩ (.int .i64 (cm + 1))) g 138 #[.int .i64 0, .int .i64 (cm + 1), .int .i64 0, .int .i64 0, .int .i64 0, .int .i64 0, .int .i64 0, .int .i64 0, .int .i64 0, .int .i64 0, .int .i64 0, .int .i64 0, .int .i64 0, .int .i64 0]) := Lib.hid s1
  have FF : Hid (Fr (fun k => k = g) w ((((w.alloc (.cells fact2 102)).drewN nq).setCell ⟨g, 0, none⟩ (.int .i64 0)).setCell ⟨g, 1, none⟩ (.int .i64 (cm + 1)))) := Lib.hid (((FR.out.drewN nq).setCell (p := ⟨g, 0, none⟩) (fun _ => rfl) _).setCell (p := ⟨g, 1, none⟩) (fun _ => rfl) _)
  have hcm0 : -1 ≤ cm ∧ cm ≤ 1 := by omega
  have hb : ((1 : Int) == cm + 1) = (cm == 0) := by rcases hcm with rfl | rfl <;> rfl
  clear F G s0 f0 s1 f1 FR hcm
  go_wp2_with fail
  go_quiet (fail)
  go_wp2
  go_ret
  exact ⟨rfl, GG.out.drewN _, FF.out.drewN _⟩

set_option maxRecDepth 100000 in
set_option maxHeartbeats 2000000 in
theorem legal_two (w : World) (b : Nat) (h : Blk w b 102 facts2) :
    Calls Tryd.prog 41 #[.slice (some ⟨b, 0, none⟩) 2 2] w fun e w' => e = .returned (.int .i64 1) ∧ Fr No w w' := by
  have HB := Lib.hid h
  have hlt := h.lt
  clear h
  have L0 := Lib.hid (Blk.new w 138 #[.int .i64 0, .int .i64 0, .int .i64 0, .int .i64 0, .int .i64 0, .int .i64 0, .int .i64 0, .int .i64 0, .int .i64 0, .int .i64 0, .int .i64 0, .int .i64 0, .int .i64 0, .int .i64 0])
  have F0 : Hid (Fr No w (w.alloc (.cells #[.int .i64 0, .int .i64 0, .int .i64 0, .int .i64 0, .int .i64 0, .int .i64 0, .int .i64 0, .int .i64 0, .int .i64 0, .int .i64 0, .int .i64 0, .int .i64 0, .int .i64 0, .int .i64 0] 138))) := Lib.hid ((Fr.refl No w).alloc _)
  have B0 := Lib.hid (HB.out.alloc (.cells #[.int .i64 0, .int .i64 0, .int .i64 0, .int .i64 0, .int .i64 0, .int .i64 0, .int .i64 0, .int .i64 0, .int .i64 0, .int .i64 0, .int .i64 0, .int .i64 0, .int .i64 0, .int .i64 0] 138))
  go_enter Tryd.func41, Tryd.ntmps41
  go_wp2_with fail
  refine wp_loop_rounds 3 ?_
  rw [rounds_succ]
  go_wp2_with (first
    | (refine wpList_load_agg rfl 102 (.tmp 13) rfl ⟨b, 0 * 28, none⟩ rfl fact2 (fact_load B0.out 0 (by decide)) ?_)
    | (refine wpList_store_row rfl 102 (.tmp 5) (.tmp 14) rfl (w.heap.size + 1) fact2 rfl rfl 102 _ (heap_last _ _ _ (by simp)) (by kernel_rfl) rfl (by kernel_rfl) ?_; rw [setRow_last _ _ _ _ _ (by simp)])
    | (refine wpList_load_row rfl 102 (.tmp 5) rfl (w.heap.size + 1) rfl 102 fact2 (0, 0) _ (heap_last _ _ _ (by simp)) Tryd.underlying102 rfl (by kernel_rfl) ?_))
  refine (can_two _ w.heap.size 0 (.inl rfl) (L0.out.alloc (.cells fact2 102))).mono ?_
  rintro e w2 ⟨rfl, l2, f2⟩
  have B2 := Lib.hid ((B0.out.alloc (.cells fact2 102)).keep f2 (by omega))
  have L2 : Hid (Blk w2 w.heap.size 138 #[.int .i64 0, .int .i64 1, .int .i64 0, .int .i64 0, .int .i64 0, .int .i64 0, .int .i64 0, .int .i64 0, .int .i64 0, .int .i64 0, .int .i64 0, .int .i64 0, .int .i64 0, .int .i64 0]) := Lib.hid l2
  have F2 := Lib.hid ((F0.out.alloc (.cells fact2 102)).then_ f2 (fun i hi e => by omega))
  clear l2 f2 F0 B0 L0
  go_wp2_with fail
  rw [rounds_succ]
  go_wp2_with (first
    | (refine wpList_load_agg rfl 102 (.tmp 13) rfl ⟨b, 1 * 28, none⟩ rfl fact2 (fact_load B2.out 1 (by decide)) ?_)
    | (refine wpList_store_row rfl 102 (.tmp 5) (.tmp 14) rfl w2.heap.size fact2 rfl rfl 102 _ (heap_last _ _ _ rfl) (by kernel_rfl) rfl (by kernel_rfl) ?_; rw [setRow_last _ _ _ _ _ rfl])
    | (refine wpList_load_row rfl 102 (.tmp 5) rfl w2.heap.size rfl 102 fact2 (0, 0) _ (heap_last _ _ _ rfl) Tryd.underlying102 rfl (by kernel_rfl) ?_))
  refine (can_two _ w.heap.size 1 (.inr rfl) (L2.out.alloc (.cells fact2 102))).mono ?_
  rintro e w3 ⟨rfl, -, f3⟩
  have F3 := Lib.hid ((F2.out.alloc (.cells fact2 102)).then_ f3 (fun i hi e => by omega))
  clear f3
  go_wp2
  go_ret
  exact ⟨rfl, F3.out⟩
end Go.Proofs.YtoockgijliacdaaDoor
