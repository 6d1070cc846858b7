/- Contract of audit's ending: the reply that a line ends. -/
import Derived.Test.YtoockgijliacdaaDoorAit
namespace Go.Proofs.YtoockgijliacdaaDoor
open Go.RowKit Go.Shelf

/-- The library's variable MaxLen holds some number. -/
def ML (w : World) : Prop := ∃ m, w.cell? ⟨1, 0, none⟩ = some (.int .i64 m)
theorem ML.keep {w w1 : World} {R : Nat → Prop} (h : ML w) (F : Fr R w w1) (hR : ¬ R 1) : ML w1 := by
  obtain ⟨m, hm⟩ := h
  exact ⟨m, (World.cell?_of_block (w := w) (F.block _ (block_lt_of_cell hm) hR)).trans hm⟩
theorem Digs.keepR {w w' : World} {R : Nat → Prop} (h : Digs w) (hf : Fr R w w') (hR : ¬ R 0) : Digs w' := by
  obtain ⟨fr, hg⟩ := h
  have hlt : (0 : Nat) < w.heap.size := by
    rcases Nat.lt_or_ge 0 w.heap.size with h | h
    · exact h
    · rw [Array.getElem?_eq_none h] at hg; cases hg
  exact ⟨fr, (hf.block _ hlt hR).trans hg⟩

theorem cut_none_any (s : ByteArray) (w : World) (hm : ML w) (hs : s.size < 4294967281) (h : (32 : UInt8) ∉ s.data.toList) :
    Calls Tryd.prog 72 #[.string s, .string { data := #[32] }] w fun e w' => e = .returned (.tuple #[.string s, .string { data := #[] }, .bool false]) ∧ Fr No w w' := by
  obtain ⟨m, hm⟩ := hm
  refine (Tryd.strings_Cut s { data := #[32] } m w hs hm).mono ?_
  rintro e w' ⟨rfl, n, rfl⟩
  have e : Lib.cut s.data.toList [32] = (s.data.toList, [], false) := cut_none h
  refine ⟨?_, (Fr.refl _ _).drewN n⟩
  show Ending.returned (.tuple #[.string ⟨(Lib.cut s.data.toList [32]).1.toArray⟩, .string ⟨(Lib.cut s.data.toList [32]).2.1.toArray⟩, .bool (Lib.cut s.data.toList [32]).2.2]) = _
  rw [e]
theorem cut_some_any (l r : List UInt8) (w : World) (hm : ML w) (hs : (str (l ++ 32 :: r)).size < 4294967281) (h : (32 : UInt8) ∉ l) :
    Calls Tryd.prog 72 #[.string (str (l ++ 32 :: r)), .string { data := #[32] }] w fun e w' => e = .returned (.tuple #[.string (str l), .string (str r), .bool true]) ∧ Fr No w w' := by
  obtain ⟨m, hm⟩ := hm
  refine (Tryd.strings_Cut _ { data := #[32] } m w hs hm).mono ?_
  rintro e w' ⟨rfl, n, rfl⟩
  have e : Lib.cut (str (l ++ 32 :: r)).data.toList [32] = (l, r, true) := by rw [str_data]; exact cut_some h
  refine ⟨?_, (Fr.refl _ _).drewN n⟩
  show Ending.returned (.tuple #[.string ⟨(Lib.cut (str (l ++ 32 :: r)).data.toList [32]).1.toArray⟩, .string ⟨(Lib.cut (str (l ++ 32 :: r)).data.toList [32]).2.1.toArray⟩, .bool (Lib.cut (str (l ++ 32 :: r)).data.toList [32]).2.2]) = _
  rw [e]
  rfl
theorem has_any (r : List UInt8) (w : World) (hm : ML w) (hs : (str r).size < 4294967281) :
    Calls Tryd.prog 74 #[.string (str r), .string { data := #[32] }] w fun e w' => e = .returned (.bool (decide ((32 : UInt8) ∈ r))) ∧ w' = w := by
  obtain ⟨m, hm⟩ := hm
  refine (Tryd.strings_Contains _ { data := #[32] } m w hs hm).mono ?_
  rintro e w' ⟨rfl, rfl⟩
  refine ⟨?_, rfl⟩
  show Ending.returned (.bool (Lib.contains (str r).data.toList [32])) = _
  rw [str_data, contains_one]
theorem split_any (r : List UInt8) (w : World) (hm : ML w) (hs : (str r).size < 4294967281) :
    Calls Tryd.prog 75 #[.string (str r), .string { data := #[32] }] w fun e w' => e = .returned (.slice (some ⟨w.heap.size, 0, none⟩) (splitB [] r).length (splitB [] r).length) ∧ w' = w.alloc (.cells ((splitB [] r).map fun x => Value.string (str x)).toArray 9) := by
  obtain ⟨m, hm⟩ := hm
  refine (Tryd.strings_Split _ { data := #[32] } m w hs hm (by decide)).mono ?_
  rintro e w' ⟨rfl, rfl⟩
  have e := split_eq (str r)
  rw [str_data] at e
  have e2 : (Lib.splitB ⟨#[32]⟩ 0 (Lib.countB (str r) ⟨#[32]⟩) (str r)).map Value.string = (splitB [] r).map fun x => Value.string (str x) := by
    rw [← e, List.map_map]
    refine List.map_congr_left fun x _ => ?_
    show Value.string x = Value.string (str x.data.toList)
    rw [str_of]
  have e3 : Lib.countB (str r) ⟨#[32]⟩ + 1 = (splitB [] r).length := by
    have h1 := congrArg List.length e
    rw [List.length_map] at h1
    rw [← h1]
    exact (Lib.splitB_all ⟨#[32]⟩ (by decide) 0 _ _ rfl).symm
  rw [e2, e3]
  exact ⟨rfl, rfl⟩

def rplCells (r : Rpl) (v : Value) : List Value := [.int .i64 r.kind, v, .int .i64 r.num, .string (str r.word), .int .i64 r.a, .int .i64 r.b, .int .i64 r.c]
def EndPost (t : TypeId) (s : List UInt8) (w : World) (e : Ending) (w' : World) : Prop :=
  ∃ r ok, e = .returned (.tuple #[.agg (rplCells r (.slice none 0 0)).toArray, .bool ok]) ∧ (ok = true → endS s = some r) ∧ (ok = false → endS s = none) ∧ Fr No w w'

theorem splitB_len (acc l : List UInt8) : ∀ x ∈ splitB acc l, x.length ≤ acc.length + l.length := by
  induction l generalizing acc with
  | nil => intro x hx; simp [splitB] at hx; subst hx; simp
  | cons c l ih =>
    intro x hx
    unfold splitB at hx
    split at hx
    · simp at hx
      rcases hx with rfl | hx
      · simp
      · have := ih [] x hx; simp at this ⊢; omega
    · have := ih _ x hx; simp at this ⊢; omega

/-- Seven cells set in a block of seven. -/
def set7 (w : World) (b : Nat) (v0 v1 v2 v3 v4 v5 v6 : Value) : World := ((((((w.setCell ⟨b, 0, none⟩ v0).setCell ⟨b, 1, none⟩ v1).setCell ⟨b, 2, none⟩ v2).setCell ⟨b, 3, none⟩ v3).setCell ⟨b, 4, none⟩ v4).setCell ⟨b, 5, none⟩ v5).setCell ⟨b, 6, none⟩ v6
theorem set7_fr (w : World) (b : Nat) (v0 v1 v2 v3 v4 v5 v6 : Value) : Fr (fun k => k = b) w (set7 w b v0 v1 v2 v3 v4 v5 v6) := by
  have e : b = b := rfl
  exact (((((((Fr.refl (fun k => k = b) w).setCell (p := ⟨b, 0, none⟩) (fun _ => e) v0).setCell (p := ⟨b, 1, none⟩) (fun _ => e) v1).setCell (p := ⟨b, 2, none⟩) (fun _ => e) v2).setCell (p := ⟨b, 3, none⟩) (fun _ => e) v3).setCell (p := ⟨b, 4, none⟩) (fun _ => e) v4).setCell (p := ⟨b, 5, none⟩) (fun _ => e) v5).setCell (p := ⟨b, 6, none⟩) (fun _ => e) v6
theorem set7_blk {w : World} {b : Nat} {t : TypeId} {x0 x1 x2 x3 x4 x5 x6 : Value} (h : Blk w b t #[x0, x1, x2, x3, x4, x5, x6]) (v0 v1 v2 v3 v4 v5 v6 : Value) : Blk (set7 w b v0 v1 v2 v3 v4 v5 v6) b t #[v0, v1, v2, v3, v4, v5, v6] := by
  have a0 : Blk _ b t #[v0, x1, x2, x3, x4, x5, x6] := h.set 0 v0
  have a1 : Blk _ b t #[v0, v1, x2, x3, x4, x5, x6] := a0.set 1 v1
  have a2 : Blk _ b t #[v0, v1, v2, x3, x4, x5, x6] := a1.set 2 v2
  have a3 : Blk _ b t #[v0, v1, v2, v3, x4, x5, x6] := a2.set 3 v3
  have a4 : Blk _ b t #[v0, v1, v2, v3, v4, x5, x6] := a3.set 4 v4
  have a5 : Blk _ b t #[v0, v1, v2, v3, v4, v5, x6] := a4.set 5 v5
  exact a5.set 6 v6
theorem blk7 {w : World} {b : Nat} {t : TypeId} {x0 x1 x2 x3 x4 x5 x6 : Value} (h : Blk w b t #[x0, x1, x2, x3, x4, x5, x6]) :
    (w.cell? ⟨b, 0, none⟩ = some x0 ∧ w.cell? ⟨b, 1, none⟩ = some x1 ∧ w.cell? ⟨b, 2, none⟩ = some x2 ∧ w.cell? ⟨b, 3, none⟩ = some x3 ∧ w.cell? ⟨b, 4, none⟩ = some x4 ∧ w.cell? ⟨b, 5, none⟩ = some x5 ∧ w.cell? ⟨b, 6, none⟩ = some x6) ∧
    (w.frozen? ⟨b, 0, none⟩ = false ∧ w.frozen? ⟨b, 1, none⟩ = false ∧ w.frozen? ⟨b, 2, none⟩ = false ∧ w.frozen? ⟨b, 3, none⟩ = false ∧ w.frozen? ⟨b, 4, none⟩ = false ∧ w.frozen? ⟨b, 5, none⟩ = false ∧ w.frozen? ⟨b, 6, none⟩ = false) :=
  ⟨⟨h.cell_ 0 rfl, h.cell_ 1 rfl, h.cell_ 2 rfl, h.cell_ 3 rfl, h.cell_ 4 rfl, h.cell_ 5 rfl, h.cell_ 6 rfl⟩, h.frozen 0, h.frozen 1, h.frozen 2, h.frozen 3, h.frozen 4, h.frozen 5, h.frozen 6⟩
theorem set7_new {w w1 : World} (F : Fr No w w1) (v0 v1 v2 v3 v4 v5 v6 : Value) : Fr No w (set7 w1 w.heap.size v0 v1 v2 v3 v4 v5 v6) := F.then_ (set7_fr _ _ _ _ _ _ _ _ _) (fun i hi h => by omega)
theorem str_eq (l : List UInt8) (q : List UInt8) : ((str l).toList == q) = decide (l = q) := by
  rw [Lib.toList_data, str_data]
  by_cases h : l = q
  · rw [decide_eq_true h, h]; exact beq_self_eq_true _
  · rw [decide_eq_false h]; exact beq_eq_false_iff_ne.2 h

set_option maxRecDepth 100000 in
set_option maxHeartbeats 4000000 in
theorem ending_any (l : List UInt8) (w : World) (hd : Digs w) (hm : ML w) (hs : l.length ≤ 10000) :
    Calls Tryd.prog 43 #[.string (str l)] w (EndPost 86 l w) := by
  have HD := Lib.hid hd
  have HM := Lib.hid hm
  have HS := Lib.hid hs
  clear hd hm hs
  have F0 : Hid (Fr No w (w.alloc (.cells #[.int .i64 0, .slice none 0 0, .int .i64 0, .string { data := #[] }, .int .i64 0, .int .i64 0, .int .i64 0] 86))) := Lib.hid ((Fr.refl _ _).alloc _)
  have B0 := Lib.hid (Blk.new w 86 #[.int .i64 0, .slice none 0 0, .int .i64 0, .string { data := #[] }, .int .i64 0, .int .i64 0, .int .i64 0])
  rcases byte_cases l 32 with ⟨_, h2⟩ | ⟨a, r, h1, h2, _⟩
  · have E1 := Lib.hid (endS_one h2)
    go_enter Tryd.func43, Tryd.ntmps43
    go_wp2_with fail
    refine (cut_none_any (str l) _ (HM.out.keep F0.out id) (by rw [str_size]; have := HS.out; omega) (by rw [str_data]; exact h2)).mono ?_
    rintro e w1 ⟨rfl, f1⟩
    have F1 := Lib.hid (F0.out.trans f1)
    have B1 := Lib.hid (B0.out.keep f1 id)
    obtain ⟨⟨z0, z1, z2, z3, z4, z5, z6⟩, ⟨y0, y1, y2, y3, y4, y5, y6⟩⟩ := blk7 B1.out
    clear f1 h2
    have q1 := str_eq l [69, 78, 68]
    have q2 := str_eq l [79, 75]
    by_cases e1 : l = [69, 78, 68]
    · rw [decide_eq_true e1] at q1
      have R : Hid (endS l = some ⟨1, 0, [], 0, 0, 0⟩) := Lib.hid (by rw [E1.out, e1]; rfl)
      clear q2 e1
      go_wp2
      refine bodyPost_ret (res_cell_tmp (ty := 86) rfl _ _ w.heap.size 86 _ _ rfl (set7_blk B1.out _ _ _ _ _ _ _) Tryd.underlying86 rfl (by kernel_rfl)) rfl ?_
      exact ⟨⟨1, 0, [], 0, 0, 0⟩, true, rfl, fun _ => R.out, fun h => (by cases h), set7_new F1.out _ _ _ _ _ _ _⟩
    · rw [decide_eq_false e1] at q1
      by_cases e2 : l = [79, 75]
      · rw [decide_eq_true e2] at q2
        have R : Hid (endS l = some ⟨3, 0, [], 0, 0, 0⟩) := Lib.hid (by rw [E1.out, e2]; rfl)
        clear e2 e1
        go_wp2
        refine bodyPost_ret (res_cell_tmp (ty := 86) rfl _ _ w.heap.size 86 _ _ rfl (set7_blk B1.out _ _ _ _ _ _ _) Tryd.underlying86 rfl (by kernel_rfl)) rfl ?_
        exact ⟨⟨3, 0, [], 0, 0, 0⟩, true, rfl, fun _ => R.out, fun h => (by cases h), set7_new F1.out _ _ _ _ _ _ _⟩
      · rw [decide_eq_false e2] at q2
        have R : Hid (endS l = none) := Lib.hid (by rw [E1.out]; show (if l = [69, 78, 68] then _ else if l = [79, 75] then _ else none) = _; rw [if_neg e1, if_neg e2])
        clear e2 e1
        go_wp2
        refine bodyPost_ret (res_cell_tmp (ty := 86) rfl _ _ w.heap.size 86 _ _ rfl (set7_blk B1.out _ _ _ _ _ _ _) Tryd.underlying86 rfl (by kernel_rfl)) rfl ?_
        exact ⟨⟨0, 0, [], 0, 0, 0⟩, false, rfl, fun h => (by cases h), fun _ => R.out, set7_new F1.out _ _ _ _ _ _ _⟩
  · subst h1
    have E1 := Lib.hid (endS_more (r := r) h2)
    have HS2 : Hid (r.length ≤ 10000) := Lib.hid (by have := HS.out; simp at this; omega)
    go_enter Tryd.func43, Tryd.ntmps43
    go_wp2_with fail
    refine (cut_some_any a r _ (HM.out.keep F0.out id) (by rw [str_size]; have := HS.out; omega) h2).mono ?_
    rintro e w1 ⟨rfl, f1⟩
    have F1 := Lib.hid (F0.out.trans f1)
    have B1 := Lib.hid (B0.out.keep f1 id)
    obtain ⟨⟨z0, z1, z2, z3, z4, z5, z6⟩, ⟨y0, y1, y2, y3, y4, y5, y6⟩⟩ := blk7 B1.out
    clear f1 h2
    have q1 := str_eq a wMORE
    have q2 := str_eq a wERR
    have q3 := str_eq a wSTAT
    unfold wMORE at q1
    unfold wERR at q2
    unfold wSTAT at q3
    by_cases e1 : a = [77, 79, 82, 69]
    · rw [decide_eq_true e1] at q1
      have R : Hid (endS (a ++ 32 :: r) = (octInt r).map (fun n => ⟨2, n, [], 0, 0, 0⟩)) := Lib.hid (by rw [E1.out, e1]; exact endP_more r)
      clear q2 q3 e1 z0 z1 z2 z3 z4 z5 z6 y0 y1 y2 y3 y4 y5 y6
      go_wp2_with fail
      refine (octInt_any (str r) _ (HD.out.keep F1.out) (by unfold maxLen; rw [str_size]; have := HS2.out; omega)).mono ?_
      rintro e w2 ⟨rfl, f2⟩
      have F2 := Lib.hid (F1.out.trans f2)
      have B2 := Lib.hid (B1.out.keep f2 id)
      obtain ⟨⟨z0, z1, z2, z3, z4, z5, z6⟩, ⟨y0, y1, y2, y3, y4, y5, y6⟩⟩ := blk7 B2.out
      rw [str_data]
      clear f2
      cases ho : octInt r with
      | none =>
        rw [intPair_none ho]
        have R2 : Hid (endS (a ++ 32 :: r) = none) := Lib.hid (by rw [R.out, ho]; rfl)
        clear ho R
        go_wp2
        refine bodyPost_ret (res_cell_tmp (ty := 86) rfl _ _ w.heap.size 86 _ _ rfl (set7_blk B2.out _ _ _ _ _ _ _) Tryd.underlying86 rfl (by kernel_rfl)) rfl ?_
        exact ⟨⟨2, 0, [], 0, 0, 0⟩, false, rfl, fun h => (by cases h), fun _ => R2.out, set7_new F2.out _ _ _ _ _ _ _⟩
      | some m =>
        rw [intPair_some ho]
        have R2 : Hid (endS (a ++ 32 :: r) = some ⟨2, m, [], 0, 0, 0⟩) := Lib.hid (by rw [R.out, ho]; rfl)
        clear ho R
        go_wp2
        refine bodyPost_ret (res_cell_tmp (ty := 86) rfl _ _ w.heap.size 86 _ _ rfl (set7_blk B2.out _ _ _ _ _ _ _) Tryd.underlying86 rfl (by kernel_rfl)) rfl ?_
        exact ⟨⟨2, m, [], 0, 0, 0⟩, true, rfl, fun _ => R2.out, fun h => (by cases h), set7_new F2.out _ _ _ _ _ _ _⟩
    · rw [decide_eq_false e1] at q1
      by_cases e2 : a = [69, 82, 82]
      · rw [decide_eq_true e2] at q2
        have R : Hid (endS (a ++ 32 :: r) = if r = [] ∨ (32 : UInt8) ∈ r then none else some ⟨4, 0, r, 0, 0, 0⟩) := Lib.hid (by rw [E1.out, e2]; exact endP_err r)
        clear e2 e1 q3
        have q4 := str_eq r []
        by_cases e4 : r = []
        · rw [decide_eq_true e4] at q4
          have R2 : Hid (endS (a ++ 32 :: r) = none) := Lib.hid (by rw [R.out, if_pos (Or.inl e4)])
          clear e4 R
          go_wp2
          refine bodyPost_ret (res_cell_tmp (ty := 86) rfl _ _ w.heap.size 86 _ _ rfl (set7_blk B1.out _ _ _ _ _ _ _) Tryd.underlying86 rfl (by kernel_rfl)) rfl ?_
          exact ⟨⟨4, 0, r, 0, 0, 0⟩, false, rfl, fun h => (by cases h), fun _ => R2.out, set7_new F1.out _ _ _ _ _ _ _⟩
        · rw [decide_eq_false e4] at q4
          have E4 := Lib.hid e4
          clear e4
          go_wp2_with fail
          refine (has_any r _ (HM.out.keep F1.out id) (by rw [str_size]; have := HS2.out; omega)).mono ?_
          rintro e w2 ⟨rfl, rfl⟩
          by_cases e5 : (32 : UInt8) ∈ r
          · rw [decide_eq_true e5]
            have R2 : Hid (endS (a ++ 32 :: r) = none) := Lib.hid (by rw [R.out, if_pos (Or.inr e5)])
            clear e5 R
            go_wp2
            refine bodyPost_ret (res_cell_tmp (ty := 86) rfl _ _ w.heap.size 86 _ _ rfl (set7_blk B1.out _ _ _ _ _ _ _) Tryd.underlying86 rfl (by kernel_rfl)) rfl ?_
            exact ⟨⟨4, 0, r, 0, 0, 0⟩, false, rfl, fun h => (by cases h), fun _ => R2.out, set7_new F1.out _ _ _ _ _ _ _⟩
          · rw [decide_eq_false e5]
            have R2 : Hid (endS (a ++ 32 :: r) = some ⟨4, 0, r, 0, 0, 0⟩) := Lib.hid (by rw [R.out, if_neg (fun h => h.elim E4.out e5)])
            clear e5 R
            go_wp2
            refine bodyPost_ret (res_cell_tmp (ty := 86) rfl _ _ w.heap.size 86 _ _ rfl (set7_blk B1.out _ _ _ _ _ _ _) Tryd.underlying86 rfl (by kernel_rfl)) rfl ?_
            exact ⟨⟨4, 0, r, 0, 0, 0⟩, true, rfl, fun _ => R2.out, fun h => (by cases h), set7_new F1.out _ _ _ _ _ _ _⟩
      · rw [decide_eq_false e2] at q2
        by_cases e3 : a = [83, 84, 65, 84]
        · rw [decide_eq_true e3] at q3
          have R : Hid (endS (a ++ 32 :: r) = endP (wSTAT :: splitB [] r)) := Lib.hid (by rw [E1.out, e3]; rfl)
          have NE : Hid (splitB [] r ≠ []) := Lib.hid (splitB_ne _ _)
          clear e3 e1 e2
          go_wp2_with fail
          refine (split_any r _ ((HM.out.keep F1.out id).keep ((Fr.refl No w1).alloc _) id) (by rw [str_size]; have := HS2.out; omega)).mono ?_
          rintro e w2 ⟨rfl, hw2⟩
          obtain ⟨P, hP⟩ : ∃ P, splitB [] r = P := ⟨_, rfl⟩
          have hPL : Hid (∀ x ∈ P, x.length ≤ 10000) := Lib.hid (fun x hx => by have := splitB_len [] r x (by rw [hP]; exact hx); have := HS2.out; simp at *; omega)
          rw [hP] at hw2 R NE ⊢
          have xb : w1.heap.size = w1.heap.size := rfl
          have FX : Fr No w1 w2 := by rw [hw2]; exact ((Fr.refl No w1).alloc _).alloc _
          have F2 := Lib.hid (F1.out.trans FX)
          have O2 := Lib.hid (B1.out.keep FX id)
          have X2 : Hid (Blk w2 w1.heap.size 86 #[.int .i64 5, .slice none 0 0, .int .i64 0, .string { data := #[] }, .int .i64 0, .int .i64 0, .int .i64 0]) := Lib.hid (by rw [hw2]; exact (Blk.new w1 _ _).alloc _)
          have P2 : Hid (Blk w2 (w1.alloc (.cells #[.int .i64 5, .slice none 0 0, .int .i64 0, .string { data := #[] }, .int .i64 0, .int .i64 0, .int .i64 0] 86)).heap.size 9 (P.map fun x => Value.string (str x)).toArray) := Lib.hid (by rw [hw2]; exact Blk.new _ _ _)
          have hsz : w.heap.size ≤ w1.heap.size := F1.out.size
          have HSZ := Lib.hid hsz
          have HX : Hid (w.heap.size ≠ w1.heap.size) := Lib.hid (by have := B1.out.lt; omega)
          obtain ⟨pb, hpb⟩ : ∃ pb, (w1.alloc (.cells #[.int .i64 5, .slice none 0 0, .int .i64 0, .string { data := #[] }, .int .i64 0, .int .i64 0, .int .i64 0] 86)).heap.size = pb := ⟨_, rfl⟩
          have hpx : pb = w1.heap.size + 1 := by rw [← hpb]; simp
          have HPX := Lib.hid hpx
          rw [hpb] at P2 ⊢
          obtain ⟨xg, hxg⟩ : ∃ xg, w1.heap.size = xg := ⟨_, rfl⟩
          rw [hxg] at X2 HPX HSZ HX ⊢
          clear xb hw2 hpb hpx hxg hsz FX hP z0 z1 z2 z3 z4 z5 z6 y0 y1 y2 y3 y4 y5 y6 B0 B1 F0 F1
          by_cases h3 : P.length = 3
          · obtain ⟨p, q, s, rfl⟩ : ∃ p q s, P = [p, q, s] := by
              match P, h3 with
              | [p, q, s], _ => exact ⟨p, q, s, rfl⟩
            have R2 : Hid (endS (a ++ 32 :: r) = stat3 (octInt p) (octInt q) (octInt s)) := Lib.hid (by rw [R.out]; exact endP_stat _ (by simp))
            have P3 : Hid (Blk w2 pb 9 #[.string (str p), .string (str q), .string (str s)]) := P2
            have Lp : Hid (p.length ≤ 10000 ∧ q.length ≤ 10000 ∧ s.length ≤ 10000) := Lib.hid ⟨hPL.out p (by simp), hPL.out q (by simp), hPL.out s (by simp)⟩
            clear R P2 hPL NE h3
            have pc0 := P3.out.cell_ 0 rfl
            go_wp2_with fail
            refine wp_loop_rounds 4 ?_
            rw [rounds_succ]
            go_wp2_with fail
            refine (octInt_any (str p) _ (HD.out.keep F2.out) (by unfold maxLen; rw [str_size]; have := Lp.out.1; omega)).mono ?_
            rintro e w3 ⟨rfl, f0⟩
            have G0 := Lib.hid (F2.out.trans f0)
            have OO0 := Lib.hid (O2.out.keep f0 id)
            have XX0 := Lib.hid (X2.out.keep f0 id)
            have PP0 := Lib.hid (P3.out.keep f0 id)
            clear f0 pc0
            rw [str_data]
            cases ho0 : octInt p with
            | none =>
              rw [intPair_none ho0]
              have R3 : Hid (endS (a ++ 32 :: r) = none) := Lib.hid (by rw [R2.out]; rw [ho0]; rfl)
              obtain ⟨⟨z0, z1, z2, z3, z4, z5, z6⟩, ⟨y0, y1, y2, y3, y4, y5, y6⟩⟩ := blk7 OO0.out
              clear ho0 R2
              go_wp2
              refine bodyPost_ret (res_cell_tmp (ty := 86) rfl _ _ w.heap.size 86 _ _ rfl (set7_blk OO0.out _ _ _ _ _ _ _) Tryd.underlying86 rfl (by kernel_rfl)) rfl ?_
              exact ⟨⟨0, 0, [], 0, 0, 0⟩, false, rfl, fun h => (by cases h), fun _ => R3.out, set7_new G0.out _ _ _ _ _ _ _⟩
            | some m0 =>
              rw [intPair_some ho0]
              have HO0 := Lib.hid ho0
              have xc0 := XX0.out.cell_ 4 rfl
              have xf0 := XX0.out.frozen 4
              have fs0 : Fr (fun k => k = xg) w3 (w3.setCell ⟨xg, 4, none⟩ (.int .i64 (m0 : Int))) := (Fr.refl (fun k => k = xg) w3).setCell (p := ⟨xg, 4, none⟩) (fun _ => by exact (rfl : xg = xg)) _
              have H0 : Hid (Fr No w (w3.setCell ⟨xg, 4, none⟩ (.int .i64 (m0 : Int)))) := Lib.hid (G0.out.then_ fs0 (fun k hk h => by have := HSZ.out; omega))
              have XX0b : Hid (Blk (w3.setCell ⟨xg, 4, none⟩ (.int .i64 (m0 : Int))) xg 86 #[.int .i64 5, .slice none 0 0, .int .i64 0, .string { data := #[] }, .int .i64 (m0 : Int), .int .i64 0, .int .i64 0]) := Lib.hid (XX0.out.set 4 _)
              have PP0b := Lib.hid (PP0.out.keep fs0 (by have := HPX.out; omega))
              have OO0b := Lib.hid (OO0.out.keep fs0 (by have := HX.out; omega))
              clear ho0 fs0
              go_wp2_with fail
              clear xc0 xf0
              rw [rounds_succ]
              have pc1 := PP0b.out.cell_ 1 rfl
              go_wp2_with fail
              refine (octInt_any (str q) _ (HD.out.keep H0.out) (by unfold maxLen; rw [str_size]; have := Lp.out.2.1; omega)).mono ?_
              rintro e w4 ⟨rfl, f1⟩
              have G1 := Lib.hid (H0.out.trans f1)
              have OO1 := Lib.hid (OO0b.out.keep f1 id)
              have XX1 := Lib.hid (XX0b.out.keep f1 id)
              have PP1 := Lib.hid (PP0b.out.keep f1 id)
              clear f1 pc1
              rw [str_data]
              cases ho1 : octInt q with
              | none =>
                rw [intPair_none ho1]
                have R3 : Hid (endS (a ++ 32 :: r) = none) := Lib.hid (by rw [R2.out]; cases octInt p <;> rw [ho1] <;> rfl)
                obtain ⟨⟨z0, z1, z2, z3, z4, z5, z6⟩, ⟨y0, y1, y2, y3, y4, y5, y6⟩⟩ := blk7 OO1.out
                clear ho1 R2
                go_wp2
                refine bodyPost_ret (res_cell_tmp (ty := 86) rfl _ _ w.heap.size 86 _ _ rfl (set7_blk OO1.out _ _ _ _ _ _ _) Tryd.underlying86 rfl (by kernel_rfl)) rfl ?_
                exact ⟨⟨0, 0, [], 0, 0, 0⟩, false, rfl, fun h => (by cases h), fun _ => R3.out, set7_new G1.out _ _ _ _ _ _ _⟩
              | some m1 =>
                rw [intPair_some ho1]
                have HO1 := Lib.hid ho1
                have xc1 := XX1.out.cell_ 5 rfl
                have xf1 := XX1.out.frozen 5
                have fs1 : Fr (fun k => k = xg) w4 (w4.setCell ⟨xg, 5, none⟩ (.int .i64 (m1 : Int))) := (Fr.refl (fun k => k = xg) w4).setCell (p := ⟨xg, 5, none⟩) (fun _ => by exact (rfl : xg = xg)) _
                have H1 : Hid (Fr No w (w4.setCell ⟨xg, 5, none⟩ (.int .i64 (m1 : Int)))) := Lib.hid (G1.out.then_ fs1 (fun k hk h => by have := HSZ.out; omega))
                have XX1b : Hid (Blk (w4.setCell ⟨xg, 5, none⟩ (.int .i64 (m1 : Int))) xg 86 #[.int .i64 5, .slice none 0 0, .int .i64 0, .string { data := #[] }, .int .i64 (m0 : Int), .int .i64 (m1 : Int), .int .i64 0]) := Lib.hid (XX1.out.set 5 _)
                have PP1b := Lib.hid (PP1.out.keep fs1 (by have := HPX.out; omega))
                have OO1b := Lib.hid (OO1.out.keep fs1 (by have := HX.out; omega))
                clear ho1 fs1
                go_wp2_with fail
                clear xc1 xf1
                rw [rounds_succ]
                have pc2 := PP1b.out.cell_ 2 rfl
                go_wp2_with fail
                refine (octInt_any (str s) _ (HD.out.keep H1.out) (by unfold maxLen; rw [str_size]; have := Lp.out.2.2; omega)).mono ?_
                rintro e w5 ⟨rfl, f2⟩
                have G2 := Lib.hid (H1.out.trans f2)
                have OO2 := Lib.hid (OO1b.out.keep f2 id)
                have XX2 := Lib.hid (XX1b.out.keep f2 id)
                have PP2 := Lib.hid (PP1b.out.keep f2 id)
                clear f2 pc2
                rw [str_data]
                cases ho2 : octInt s with
                | none =>
                  rw [intPair_none ho2]
                  have R3 : Hid (endS (a ++ 32 :: r) = none) := Lib.hid (by rw [R2.out]; cases octInt p <;> cases octInt q <;> rw [ho2] <;> rfl)
                  obtain ⟨⟨z0, z1, z2, z3, z4, z5, z6⟩, ⟨y0, y1, y2, y3, y4, y5, y6⟩⟩ := blk7 OO2.out
                  clear ho2 R2
                  go_wp2
                  refine bodyPost_ret (res_cell_tmp (ty := 86) rfl _ _ w.heap.size 86 _ _ rfl (set7_blk OO2.out _ _ _ _ _ _ _) Tryd.underlying86 rfl (by kernel_rfl)) rfl ?_
                  exact ⟨⟨0, 0, [], 0, 0, 0⟩, false, rfl, fun h => (by cases h), fun _ => R3.out, set7_new G2.out _ _ _ _ _ _ _⟩
                | some m2 =>
                  rw [intPair_some ho2]
                  have HO2 := Lib.hid ho2
                  have xc2 := XX2.out.cell_ 6 rfl
                  have xf2 := XX2.out.frozen 6
                  have fs2 : Fr (fun k => k = xg) w5 (w5.setCell ⟨xg, 6, none⟩ (.int .i64 (m2 : Int))) := (Fr.refl (fun k => k = xg) w5).setCell (p := ⟨xg, 6, none⟩) (fun _ => by exact (rfl : xg = xg)) _
                  have H2 : Hid (Fr No w (w5.setCell ⟨xg, 6, none⟩ (.int .i64 (m2 : Int)))) := Lib.hid (G2.out.then_ fs2 (fun k hk h => by have := HSZ.out; omega))
                  have XX2b : Hid (Blk (w5.setCell ⟨xg, 6, none⟩ (.int .i64 (m2 : Int))) xg 86 #[.int .i64 5, .slice none 0 0, .int .i64 0, .string { data := #[] }, .int .i64 (m0 : Int), .int .i64 (m1 : Int), .int .i64 (m2 : Int)]) := Lib.hid (XX2.out.set 6 _)
                  have PP2b := Lib.hid (PP2.out.keep fs2 (by have := HPX.out; omega))
                  have OO2b := Lib.hid (OO2.out.keep fs2 (by have := HX.out; omega))
                  clear ho2 fs2
                  obtain ⟨⟨z0, z1, z2, z3, z4, z5, z6⟩, ⟨y0, y1, y2, y3, y4, y5, y6⟩⟩ := blk7 OO2b.out
                  obtain ⟨⟨u0, u1, u2, u3, u4, u5, u6⟩, -⟩ := blk7 XX2b.out
                  have R3 : Hid (endS (a ++ 32 :: r) = some ⟨5, 0, [], m0, m1, m2⟩) := Lib.hid (by rw [R2.out, HO0.out, HO1.out, HO2.out]; rfl)
                  clear R2
                  go_wp2_with fail
                  rw [rounds_succ]
                  go_wp2
                  refine bodyPost_ret (res_cell_tmp (ty := 86) rfl _ _ w.heap.size 86 _ _ rfl (set7_blk OO2b.out _ _ _ _ _ _ _) Tryd.underlying86 rfl (by kernel_rfl)) rfl ?_
                  exact ⟨⟨5, 0, [], m0, m1, m2⟩, true, rfl, fun _ => R3.out, fun h => (by cases h), set7_new H2.out _ _ _ _ _ _ _⟩
          · have h3' : ((P.length : Int) != 3) = true := by simp; omega
            have R2 : Hid (endS (a ++ 32 :: r) = none) := Lib.hid (by
              rw [R.out, endP_stat _ NE.out]
              match P, h3 with
              | [], _ => rfl
              | [_], _ => rfl
              | [_, _], _ => rfl
              | [_, _, _], h => exact absurd rfl h
              | _ :: _ :: _ :: _ :: _, _ => rfl)
            obtain ⟨⟨z0, z1, z2, z3, z4, z5, z6⟩, ⟨y0, y1, y2, y3, y4, y5, y6⟩⟩ := blk7 O2.out
            clear R P2 hPL NE h3
            go_wp2
            refine bodyPost_ret (res_cell_tmp (ty := 86) rfl _ _ w.heap.size 86 _ _ rfl (set7_blk O2.out _ _ _ _ _ _ _) Tryd.underlying86 rfl (by kernel_rfl)) rfl ?_
            exact ⟨⟨0, 0, [], 0, 0, 0⟩, false, rfl, fun h => (by cases h), fun _ => R2.out, set7_new F2.out _ _ _ _ _ _ _⟩
        · rw [decide_eq_false e3] at q3
          have R2 : Hid (endS (a ++ 32 :: r) = none) := Lib.hid (by rw [E1.out]; exact endP_no a _ (splitB_ne _ _) e1 e2 e3)
          clear e1 e2 e3
          go_wp2
          refine bodyPost_ret (res_cell_tmp (ty := 86) rfl _ _ w.heap.size 86 _ _ rfl (set7_blk B1.out _ _ _ _ _ _ _) Tryd.underlying86 rfl (by kernel_rfl)) rfl ?_
          exact ⟨⟨0, 0, [], 0, 0, 0⟩, false, rfl, fun h => (by cases h), fun _ => R2.out, set7_new F1.out _ _ _ _ _ _ _⟩

end Go.Proofs.YtoockgijliacdaaDoor
