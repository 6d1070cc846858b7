/- Contract: replies as the document has them. -/
import Derived.Test.YtoockgijliacdaaDoorAsr
import Derived.Test.YtoockgijliacdaaDoorArr
namespace Go.Proofs.YtoockgijliacdaaDoor
open Go.RowKit

theorem take_seven {α : Type} {cs : List α} {k : Nat} {v0 v1 v2 v3 v4 v5 v6 : α} (h : ∀ j u, [v0, v1, v2, v3, v4, v5, v6][j]? = some u → cs[7 * k + j]? = some u) : cs.take (7 * (k + 1)) = cs.take (7 * k) ++ [v0, v1, v2, v3, v4, v5, v6] := by
  have e : cs.take (7 * (k + 1)) = cs.take (7 * k) ++ (cs.drop (7 * k)).take 7 := by
    rw [show 7 * (k + 1) = 7 * k + 7 by omega, List.take_add]
  rw [e]
  congr 1
  apply List.ext_getElem?
  intro j
  rw [List.getElem?_take, List.getElem?_drop]
  by_cases hj : j < 7
  · rw [if_pos hj]
    rcases (by omega : j = 0 ∨ j = 1 ∨ j = 2 ∨ j = 3 ∨ j = 4 ∨ j = 5 ∨ j = 6) with rfl | rfl | rfl | rfl | rfl | rfl | rfl <;> exact h _ _ rfl
  · rw [if_neg hj, List.getElem?_eq_none (by simp; omega)]

def NilAt (k : Nat) (v : Value) : Prop := k = 0 → v = .slice none 0 0
def ConvPost (w : World) (T : Nat → Prop) (rs : List (Rpl × List (List UInt8))) (cs : List Value) (e : Ending) (w' : World) : Prop :=
  ∃ v, e = .returned v ∧ w'.ownsRow w.heap.size 108 7 v rs.length cs ∧ RC T w' rs cs ∧ Fr No w w' ∧ (rs.length = 0 → v = .slice none 0 0)

set_option maxRecDepth 100000 in
set_option maxHeartbeats 2000000 in
theorem conv_any {S T : Nat → Prop} (w : World) (A : Option Addr) (c : Nat) (rs : List (Rpl × List (List UInt8))) (cs : List Value) (h : SlP S w A cs) (r : RC T w rs cs) (hl : rs.length ≤ 6000) :
    Calls Tryd.prog 22 #[.slice A rs.length c] w (ConvPost w T rs cs) := by
  have H := Lib.hid h
  have R := Lib.hid r
  obtain ⟨n, hn⟩ : ∃ n, rs.length = n := ⟨_, rfl⟩
  rw [hn] at hl ⊢
  have HN := Lib.hid hn
  have hl2 : (n : Int) ≤ 6000 := by omega
  have START : Hid (w.ownsRow w.heap.size 108 7 (.slice none 0 0) 0 (cs.take 0) ∧ Fr No w w ∧ NilAt 0 (.slice none 0 0)) := Lib.hid ⟨World.ownsRow_nil _ _ _ _, Fr.refl _ _, fun _ => rfl⟩
  clear h hn r
  go_enter Tryd.func22, Tryd.ntmps22
  go_wp2_with fail
  go_loopw [3, 4] (fun vo i wr => ∃ k : Nat, k ≤ n ∧ i = .int .i64 (k : Int) ∧ Hid (wr.ownsRow w.heap.size 108 7 vo k (cs.take (7 * k)) ∧ Fr No w wr ∧ NilAt k vo)) (fun _ i _ => n - (intOf i).toNat)
  case atStart => exact ⟨0, Nat.zero_le _, rfl, START⟩
  case round =>
    obtain ⟨k, hk, rfl, hI⟩ := hrel
    clear START
    by_cases hlt : k < n
    · obtain ⟨⟨rp, ls⟩, hx⟩ : ∃ x, rs[k]? = some x := ⟨rs[k]'(by rw [HN.out]; exact hlt), List.getElem?_eq_getElem _⟩
      obtain ⟨A', c', _, _, _, hat⟩ := R.out.at hx
      have h' : SlP S wr A cs := H.out.keep hI.out.2.1 (fun _ _ => id)
      have r' : RC T wr rs cs := R.out.map (fun _ _ s => s.keep hI.out.2.1 (fun _ _ => id))
      have TK := Lib.hid (take_seven hat)
      obtain ⟨b, o, e, _, hcc⟩ := h' (by rintro e; have := hat 0 _ rfl; rw [e] at this; simp at this)
      subst e
      have g : ∀ j u, (rplCells rp (.slice A' ls.length c'))[j]? = some u → wr.cell? ⟨b, o + (7 * k + j), none⟩ = some u := fun j u hu => hcc _ _ (hat j u hu)
      have x0 := g 0 _ rfl
      have x1 := g 1 _ rfl
      have x2 := g 2 _ rfl
      have x3 := g 3 _ rfl
      have x4 := g 4 _ rfl
      have x5 := g 5 _ rfl
      have x6 := g 6 _ rfl
      rw [show o + (7 * k + 0) = o + k * 7 by omega] at x0
      rw [show o + (7 * k + 1) = o + k * 7 + 1 by omega] at x1
      rw [show o + (7 * k + 2) = o + k * 7 + 2 by omega] at x2
      rw [show o + (7 * k + 3) = o + k * 7 + 3 by omega] at x3
      rw [show o + (7 * k + 4) = o + k * 7 + 4 by omega] at x4
      rw [show o + (7 * k + 5) = o + k * 7 + 5 by omega] at x5
      rw [show o + (7 * k + 6) = o + k * 7 + 6 by omega] at x6
      have HO := Lib.hid hI.out.1
      have HF := Lib.hid hI.out.2.1
      clear g hcc hat h' r' hx
      obtain ⟨i0, hi, hz0, hz1, hz2⟩ := info_parts infoRf
      go_wp2_with (at_builtin; go_loud (refine wpList_append_lies _ rfl _ _ 43 rfl w.heap.size 108 i0 (.agg #[.int .i64 0, .slice none 0 0, .int .i64 0, .string { data := #[] }, .int .i64 0, .int .i64 0, .int .i64 0]) 7 80 Tryd.underlying43 hi hz0 hz1 hz2 rfl (by decide) _ _ _ rfl (HO.out.alloc _) ⟨wr.heap.size, 0, none⟩ 1 1 _ rfl rfl (seven_new0 _ _ rfl _ _ _ _ _ _ _ _) (by simp [Value.oneCell']) (by decide) (by unfold maxLen; omega) (by omega) (by have := HF.out.size; simp only [World.size_alloc]; omega) _ rfl ?_); intro g1 cap1 w4 hown1 hgrow1 hat1 hlt1)
      go_roundw
      case rel =>
        refine ⟨k + 1, by omega, by go_num, Lib.hid ⟨by rw [TK.out]; exact hown1, ?_, fun h => absurd h (by omega)⟩⟩
        exact (HF.out.alloc _).then_ (R' := fun k => w.heap.size ≤ k) ((Fr.of_grown hgrow1).mono fun k hk => ((HO.out.alloc (.cells #[.int .i64 0] 3)).lt k hk.symm).1) (fun i hi e => by omega)
      case measure => simp [intOf]; omega
    · have hkn : k = n := by omega
      subst hkn
      have HO := Lib.hid hI.out.1
      have HF := Lib.hid hI.out.2.1
      have HN0 := Lib.hid hI.out.2.2
      go_wp2
      go_ret
      refine ⟨_, rfl, ?_, R.out.map (fun _ _ s => s.keep HF.out (fun _ _ => id)), HF.out, fun h => HN0.out (by rw [← HN.out]; exact h)⟩
      have hlen := R.out.len
      have e : cs.take (7 * k) = cs := List.take_of_length_le (by rw [hlen, HN.out]; exact Nat.le_refl _)
      have := HO.out
      rw [e] at this
      rw [HN.out]
      exact this

end Go.Proofs.YtoockgijliacdaaDoor
