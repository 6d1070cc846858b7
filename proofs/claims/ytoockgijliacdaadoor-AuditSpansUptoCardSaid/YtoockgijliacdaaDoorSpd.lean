/- Contract of the reference's Does. -/
import Derived.Test.YtoockgijliacdaaDoorSps
namespace Go.Proofs.YtoockgijliacdaaDoor
open Go.RowKit

theorem load_at {P : Program} (w : World) (g k n : Nat) (t : TypeId) (cs : Array Value) (hb : ∀ j, j < n → ∀ v, cs[j]? = some v → w.cell? ⟨g, k + j, none⟩ = some v) (hn : cs.size = n) (hagg : (isAgg t).run P w = .ok true w) (hsz : (sizeOf t).run P w = .ok n w) :
    (loadVar t ⟨g, k, none⟩).run P w = .ok (.agg cs) w := by
  have hl : (loadCells ⟨g, k, none⟩ cs.toList.length).run P w = .ok cs.toList.toArray w :=
    run_loadCells_list (P := P) w ⟨g, k, none⟩ cs.toList (fun j v hj => by
      have hj2 : j < n := by have := (List.getElem?_eq_some_iff.1 hj).1; simp at this; omega
      have e : (⟨g, k, none⟩ : Addr).add j = ⟨g, k + j, none⟩ := by unfold Addr.add; split <;> simp_all
      rw [e]
      exact hb j hj2 v (by simpa using hj))
  simp at hl
  rw [hn] at hl
  simp [loadVar, Sem.run_bind, hagg, hsz, hl, Result.andThen]

def DoesPost (w : World) (f : Fct) (e : Ending) (w' : World) : Prop := e = .returned (.int .i64 (doesV f)) ∧ Fr No w w'
set_option maxRecDepth 100000 in
set_option maxHeartbeats 2000000 in
theorem does_any (cs : Array Value) (f : Fct) (h : FA cs f) (ho : cs.all (·.oneCell') = true) (w : World) :
    Calls Tryd.prog 51 #[.agg cs] w (DoesPost w f) := by
  have F := Blk.new w 116 cs
  have x1 : (w.alloc (.cells cs 116)).cell? ⟨w.heap.size, 1, none⟩ = some (.int .i64 f.kind) := F.cell_ 1 (by rw [h.eq]; rfl)
  have x2 : (w.alloc (.cells cs 116)).cell? ⟨w.heap.size, 2, none⟩ = some (.int .i64 f.peer) := F.cell_ 2 (by rw [h.eq]; rfl)
  obtain ⟨c7, hc7⟩ : ∃ c7, cs.extract 4 11 = c7 := ⟨_, rfl⟩
  have HS : Hid (c7.size = 7) := Lib.hid (by rw [← hc7]; simp [h.size])
  have H1 : Hid (c7.all (·.oneCell') = true) := Lib.hid (by
    rw [← hc7]
    rw [Array.all_eq_true'] at ho ⊢
    intro x hx
    refine ho x ?_
    rw [Array.mem_extract_iff_getElem] at hx
    obtain ⟨k, hk, rfl⟩ := hx
    exact Array.getElem_mem _)
  have hget : ∀ j, j < 7 → c7[j]? = cs[4 + j]? := fun j hj => by
    rw [← hc7, Array.getElem?_extract, if_pos (by have := h.size; omega)]
  have LD : Hid ((loadVar 92 ⟨w.heap.size, 4, none⟩).run Tryd.prog (w.alloc (.cells cs 116)) = .ok (.agg c7) (w.alloc (.cells cs 116))) :=
    Lib.hid (load_at _ _ 4 7 _ c7 (fun j hj v hv => F.cell_ (4 + j) (by rw [← hget j hj]; exact hv)) HS.out (Tryd.isAgg92 _) (Tryd.sizeOf92 _))
  have T := Blk.new (w.alloc (.cells cs 116)) 92 c7
  rw [World.size_alloc] at T
  have y0 : ((w.alloc (.cells cs 116)).alloc (.cells c7 92)).cell? ⟨w.heap.size + 1, 0, none⟩ = some (.int .i64 f.ev) := T.cell_ 0 (by rw [hget 0 (by omega), h.eq]; rfl)
  have y1 : ((w.alloc (.cells cs 116)).alloc (.cells c7 92)).cell? ⟨w.heap.size + 1, 1, none⟩ = some (.int .i64 f.frm) := T.cell_ 1 (by rw [hget 1 (by omega), h.eq]; rfl)
  have y2 : ((w.alloc (.cells cs 116)).alloc (.cells c7 92)).cell? ⟨w.heap.size + 1, 2, none⟩ = some (.int .i64 f.to) := T.cell_ 2 (by rw [hget 2 (by omega), h.eq]; rfl)
  have F' := F.alloc (.cells c7 92)
  have z1 : ((w.alloc (.cells cs 116)).alloc (.cells c7 92)).cell? ⟨w.heap.size, 1, none⟩ = some (.int .i64 f.kind) := F'.cell_ 1 (by rw [h.eq]; rfl)
  have z2 : ((w.alloc (.cells cs 116)).alloc (.cells c7 92)).cell? ⟨w.heap.size, 2, none⟩ = some (.int .i64 f.peer) := F'.cell_ 2 (by rw [h.eq]; rfl)
  have FR : Hid (Fr No w ((w.alloc (.cells cs 116)).alloc (.cells c7 92))) := Lib.hid (((Fr.refl No w).alloc _).alloc _)
  clear F T F' hget hc7 ho h
  go_enter Tryd.func51, Tryd.ntmps51
  go_wp2_with (first
    | (refine wpList_load_agg rfl 92 (.tmp 4) rfl ⟨w.heap.size, 4, none⟩ rfl c7 LD.out ?_)
    | (refine wpList_store_row rfl 92 (.tmp 3) (.tmp 5) rfl (w.heap.size + 1) c7 rfl rfl 92 _ (heap_last _ _ _ (by simp)) (by rw [HS.out]; kernel_rfl) (by rw [HS.out]; rfl) H1.out ?_; rw [setRow_last _ _ _ _ _ (by simp)]))
  all_goals go_ret
  all_goals refine ⟨ret_int ?_, FR.out⟩
  all_goals clear FR LD H1 HS
  all_goals unfold doesV risesB fallsB
  all_goals simp_all
  all_goals trace_state

end Go.Proofs.YtoockgijliacdaaDoor
