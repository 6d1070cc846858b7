/- Parts of facts that came in. -/
import Derived.Test.YtoockgijliacdaaDoorFac
namespace Go.Proofs.YtoockgijliacdaaDoor
open Go.RowKit

/-- A slice that came in, its elements of n cells each. -/
def TrS (w : World) (e : TypeId) (n : Nat) (A : Option Addr) (len : Nat) (els : List (List Value)) : Prop :=
  els.length = len ∧ (∀ el ∈ els, el.length = n ∧ Tr w e el) ∧ SlP (fun k => k < w.heap.size) w A els.flatten
theorem flatten_get (n : Nat) : ∀ (els : List (List Value)), (∀ el ∈ els, el.length = n) → ∀ (k j : Nat) (el : List Value), els[k]? = some el → j < n → els.flatten[k * n + j]? = el[j]?
  | [], _, k, j, el, hk, _ => by simp at hk
  | x :: t, h, k, j, el, hk, hj => by
    have hx : x.length = n := h x (by simp)
    rw [List.flatten_cons]
    cases k with
    | zero =>
      simp at hk; subst hk
      rw [Nat.zero_mul, Nat.zero_add, List.getElem?_append_left (by omega)]
    | succ k =>
      simp at hk
      have hle : x.length ≤ (k + 1) * n + j := by rw [hx, Nat.succ_mul]; omega
      have he : (k + 1) * n + j - n = k * n + j := by rw [Nat.succ_mul]; omega
      rw [List.getElem?_append_right hle, hx, he]
      exact flatten_get n t (fun el he => h el (by simp [he])) k j el hk hj
theorem TrS.at {w wr : World} {e : TypeId} {n : Nat} {A : Option Addr} {len : Nat} {els : List (List Value)} (h : TrS w e n A len els) (hn : 0 < n) (F : Fr No w wr) {k : Nat} (hk : k < len) :
    ∃ b o el, A = some ⟨b, o, none⟩ ∧ b < w.heap.size ∧ els[k]? = some el ∧ el.length = n ∧ Tr w e el ∧ ∀ j u, el[j]? = some u → wr.cell? ⟨b, o + k * n + j, none⟩ = some u := by
  obtain ⟨h1, h2, h3⟩ := h
  obtain ⟨el, hx⟩ : ∃ el, els[k]? = some el := ⟨els[k]'(by omega), List.getElem?_eq_getElem _⟩
  obtain ⟨g1, g2⟩ := h2 el (List.mem_of_getElem? hx)
  obtain ⟨b, o, rfl, hb, hc⟩ := (h3.keep F (fun _ _ => id)) (by
    intro e0
    have := flatten_get n els (fun el he => (h2 el he).1) k 0 el hx hn
    rw [e0] at this
    have h0 : 0 < el.length := by omega
    rw [List.getElem?_eq_getElem h0] at this
    cases this)
  refine ⟨b, o, el, rfl, hb, hx, g1, g2, fun j u hu => ?_⟩
  have hj : j < n := by have := (List.getElem?_eq_some_iff.1 hu).1; omega
  have := flatten_get n els (fun el he => (h2 el he).1) k j el hx hj
  rw [Nat.add_assoc]
  exact hc _ _ (this.trans hu)
theorem TrS.at_all {w : World} {e : TypeId} {n : Nat} {A : Option Addr} {len : Nat} {els : List (List Value)} (h : TrS w e n A len els) (hn : 0 < n) {k : Nat} (hk : k < len) :
    ∃ b o el, A = some ⟨b, o, none⟩ ∧ b < w.heap.size ∧ els[k]? = some el ∧ el.length = n ∧ Tr w e el ∧ ∀ wr, Fr No w wr → ∀ j u, el[j]? = some u → wr.cell? ⟨b, o + k * n + j, none⟩ = some u := by
  obtain ⟨h1, h2, h3⟩ := h
  obtain ⟨el, hx⟩ : ∃ el, els[k]? = some el := ⟨els[k]'(by omega), List.getElem?_eq_getElem _⟩
  obtain ⟨g1, g2⟩ := h2 el (List.mem_of_getElem? hx)
  obtain ⟨b, o, rfl, hb, hc⟩ := h3 (by
    intro e0
    have := flatten_get n els (fun el he => (h2 el he).1) k 0 el hx hn
    rw [e0] at this
    have h0 : 0 < el.length := by omega
    rw [List.getElem?_eq_getElem h0] at this
    cases this)
  refine ⟨b, o, el, rfl, hb, hx, g1, g2, fun wr F j u hu => (World.cell?_of_block (w := w) (F.block _ hb id)).trans ?_⟩
  have hj : j < n := by have := (List.getElem?_eq_some_iff.1 hu).1; omega
  have := flatten_get n els (fun el he => (h2 el he).1) k j el hx hj
  rw [Nat.add_assoc]
  exact hc _ _ (this.trans hu)
theorem Tr.sl {w : World} {t e : TypeId} {n : Nat} {cs : List Value} (hu : Tryd.prog.underlying t = some (.slice e)) (hn : Tryd.prog.cellsOf e = n) (h0 : 0 < n) (h : Tr w t cs) :
    ∃ A len cap els, cs = [.slice A len cap] ∧ len ≤ cap ∧ cap ≤ 9223372036854775807 ∧ len ≤ 1048576 ∧ TrS w e n A len els := by
  obtain ⟨A, len, cap, e1, h1, h2, h3, els, h4, h5, h6⟩ := Tr.slice hu hn h
  exact ⟨A, len, cap, els, e1, h1, h2, h3, h4, h5, h6 h0⟩
theorem Tr.sized {w : World} {t e : TypeId} {cs : List Value} (hu : Tryd.prog.underlying t = some (.slice e)) (h : Tr w t cs) :
    ∃ A len cap, cs = [.slice A len cap] ∧ len ≤ 1048576 := by
  obtain ⟨A, len, cap, e1, h1, h2, h3, els, h4, h5, h6⟩ := Tr.slice hu rfl h
  exact ⟨A, len, cap, e1, h3⟩

set_option maxRecDepth 100000 in
theorem seg_parts {w : World} {cs : List Value} (h : Tr w 155 cs) : ∃ (x0 : Int) (A1 : Option Addr) (l1 c1 : Nat), cs = [.int .i64 x0, .slice A1 l1 c1] ∧ l1 ≤ 1048576 ∧ Tr w 26 [.slice A1 l1 c1] := by
  obtain ⟨hl, hf⟩ := Tr.struct Tryd.underlying155 h
  rw [show Tryd.prog.cellsOf 155 = 2 by kernel_rfl] at hl
  match cs, hl with
  | [v0, v1], _ =>
    have e0 : Tr w 3 [v0] := Tr.field (T := 3) (off := 0) (n := 1) hf 0 rfl rfl rfl (by kernel_rfl)
    obtain ⟨x0, g0, k0⟩ := Tr.int Tryd.underlying3 e0
    injection g0 with g0 _
    subst g0
    have e1 : Tr w 26 [v1] := Tr.field (T := 26) (off := 1) (n := 1) hf 1 rfl rfl rfl (by kernel_rfl)
    obtain ⟨A1, l1, c1, g1, k1⟩ := Tr.sized Tryd.underlying26 e1
    injection g1 with g1 _
    subst g1
    exact ⟨x0, A1, l1, c1, rfl, k1, e1⟩
set_option maxRecDepth 100000 in
theorem raw_parts {w : World} {cs : List Value} (h : Tr w 186 cs) : ∃ (x0 : Int) (x1 : Int) (A2 : Option Addr) (l2 c2 : Nat), cs = [.int .i64 x0, .int .i64 x1, .slice A2 l2 c2] ∧ l2 ≤ 1048576 ∧ Tr w 39 [.slice A2 l2 c2] := by
  obtain ⟨hl, hf⟩ := Tr.struct Tryd.underlying186 h
  rw [show Tryd.prog.cellsOf 186 = 3 by kernel_rfl] at hl
  match cs, hl with
  | [v0, v1, v2], _ =>
    have e0 : Tr w 3 [v0] := Tr.field (T := 3) (off := 0) (n := 1) hf 0 rfl rfl rfl (by kernel_rfl)
    obtain ⟨x0, g0, k0⟩ := Tr.int Tryd.underlying3 e0
    injection g0 with g0 _
    subst g0
    have e1 : Tr w 3 [v1] := Tr.field (T := 3) (off := 1) (n := 1) hf 1 rfl rfl rfl (by kernel_rfl)
    obtain ⟨x1, g1, k1⟩ := Tr.int Tryd.underlying3 e1
    injection g1 with g1 _
    subst g1
    have e2 : Tr w 39 [v2] := Tr.field (T := 39) (off := 2) (n := 1) hf 2 rfl rfl rfl (by kernel_rfl)
    obtain ⟨A2, l2, c2, g2, k2⟩ := Tr.sized Tryd.underlying39 e2
    injection g2 with g2 _
    subst g2
    exact ⟨x0, x1, A2, l2, c2, rfl, k2, e2⟩
set_option maxRecDepth 100000 in
theorem cond_parts {w : World} {cs : List Value} (h : Tr w 153 cs) : ∃ (x0 : Int) (x1 : Bool) (x2 : Int) (x3 : Int) (x4 : ByteArray) (A5 : Option Addr) (l5 c5 : Nat) (A6 : Option Addr) (l6 c6 : Nat), cs = [.int .i64 x0, .bool x1, .int .i64 x2, .int .u32 x3, .string x4, .slice A5 l5 c5, .slice A6 l6 c6] ∧ x4.size ≤ 9223372036854775807 ∧ l5 ≤ 1048576 ∧ Tr w 151 [.slice A5 l5 c5] ∧ l6 ≤ 1048576 ∧ Tr w 26 [.slice A6 l6 c6] := by
  obtain ⟨hl, hf⟩ := Tr.struct Tryd.underlying153 h
  rw [show Tryd.prog.cellsOf 153 = 7 by kernel_rfl] at hl
  match cs, hl with
  | [v0, v1, v2, v3, v4, v5, v6], _ =>
    have e0 : Tr w 3 [v0] := Tr.field (T := 3) (off := 0) (n := 1) hf 0 rfl rfl rfl (by kernel_rfl)
    obtain ⟨x0, g0, k0⟩ := Tr.int Tryd.underlying3 e0
    injection g0 with g0 _
    subst g0
    have e1 : Tr w 4 [v1] := Tr.field (T := 4) (off := 1) (n := 1) hf 1 rfl rfl rfl (by kernel_rfl)
    obtain ⟨x1, g1⟩ := Tr.bool Tryd.underlying4 e1
    injection g1 with g1 _
    subst g1
    have e2 : Tr w 3 [v2] := Tr.field (T := 3) (off := 2) (n := 1) hf 2 rfl rfl rfl (by kernel_rfl)
    obtain ⟨x2, g2, k2⟩ := Tr.int Tryd.underlying3 e2
    injection g2 with g2 _
    subst g2
    have e3 : Tr w 23 [v3] := Tr.field (T := 23) (off := 3) (n := 1) hf 3 rfl rfl rfl (by kernel_rfl)
    obtain ⟨x3, g3, k3⟩ := Tr.int Tryd.underlying23 e3
    injection g3 with g3 _
    subst g3
    have e4 : Tr w 9 [v4] := Tr.field (T := 9) (off := 4) (n := 1) hf 4 rfl rfl rfl (by kernel_rfl)
    obtain ⟨x4, g4, k4⟩ := Tr.str Tryd.underlying9 e4
    injection g4 with g4 _
    subst g4
    have e5 : Tr w 151 [v5] := Tr.field (T := 151) (off := 5) (n := 1) hf 5 rfl rfl rfl (by kernel_rfl)
    obtain ⟨A5, l5, c5, g5, k5⟩ := Tr.sized Tryd.underlying151 e5
    injection g5 with g5 _
    subst g5
    have e6 : Tr w 26 [v6] := Tr.field (T := 26) (off := 6) (n := 1) hf 6 rfl rfl rfl (by kernel_rfl)
    obtain ⟨A6, l6, c6, g6, k6⟩ := Tr.sized Tryd.underlying26 e6
    injection g6 with g6 _
    subst g6
    exact ⟨x0, x1, x2, x3, x4, A5, l5, c5, A6, l6, c6, rfl, k4, k5, e5, k6, e6⟩
set_option maxRecDepth 100000 in
theorem rule_parts {w : World} {cs : List Value} (h : Tr w 149 cs) : ∃ (A0 : Option Addr) (l0 c0 : Nat) (A1 : Option Addr) (l1 c1 : Nat) (x2 : Int), cs = [.slice A0 l0 c0, .slice A1 l1 c1, .int .i64 x2] ∧ l0 ≤ 1048576 ∧ Tr w 146 [.slice A0 l0 c0] ∧ l1 ≤ 1048576 ∧ Tr w 147 [.slice A1 l1 c1] := by
  obtain ⟨hl, hf⟩ := Tr.struct Tryd.underlying149 h
  rw [show Tryd.prog.cellsOf 149 = 3 by kernel_rfl] at hl
  match cs, hl with
  | [v0, v1, v2], _ =>
    have e0 : Tr w 146 [v0] := Tr.field (T := 146) (off := 0) (n := 1) hf 0 rfl rfl rfl (by kernel_rfl)
    obtain ⟨A0, l0, c0, g0, k0⟩ := Tr.sized Tryd.underlying146 e0
    injection g0 with g0 _
    subst g0
    have e1 : Tr w 147 [v1] := Tr.field (T := 147) (off := 1) (n := 1) hf 1 rfl rfl rfl (by kernel_rfl)
    obtain ⟨A1, l1, c1, g1, k1⟩ := Tr.sized Tryd.underlying147 e1
    injection g1 with g1 _
    subst g1
    have e2 : Tr w 3 [v2] := Tr.field (T := 3) (off := 2) (n := 1) hf 2 rfl rfl rfl (by kernel_rfl)
    obtain ⟨x2, g2, k2⟩ := Tr.int Tryd.underlying3 e2
    injection g2 with g2 _
    subst g2
    exact ⟨A0, l0, c0, A1, l1, c1, x2, rfl, k0, e0, k1, e1⟩

end Go.Proofs.YtoockgijliacdaaDoor
