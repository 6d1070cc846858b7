/- Facts that came in: what the walks read of them. -/
import Derived.Test.YtoockgijliacdaaDoorOwn
import Derived.Test.YtoockgijliacdaaDoorArc
import Derived.DataReads
import Derived.ProofKit
import Derived.OpenShut
import Derived.Carry
import Derived.Test.YtoockgijliacdaaDoorRows
namespace Go.Proofs.YtoockgijliacdaaDoor
open Go.RowKit

theorem bulk_pos {H : Type} (d : DataW H) : 1 ≤ Rows.uptoBulk d := by
  cases d with
  | lit l => cases l <;> simp [Rows.uptoBulk]
  | nil => simp [Rows.uptoBulk]
  | ptr d => simp [Rows.uptoBulk]
  | slice a b => simp [Rows.uptoBulk]
  | agg a => simp [Rows.uptoBulk]
  | iface t d => simp [Rows.uptoBulk]
  | map m => simp [Rows.uptoBulk]
  | held h => simp [Rows.uptoBulk]
theorem bulk_mem {H : Type} {d : DataW H} : ∀ {l : List (DataW H)}, d ∈ l → Rows.uptoBulk d ≤ Rows.uptoBulkAll l
  | [], h => by cases h
  | x :: l, h => by
    rw [Rows.uptoBulkAll]
    rcases List.mem_cons.1 h with rfl | h
    · omega
    · have := bulk_mem h; omega
theorem bulk_len {H : Type} : ∀ (l : List (DataW H)), l.length ≤ Rows.uptoBulkAll l
  | [] => Nat.zero_le _
  | x :: l => by
    rw [Rows.uptoBulkAll, List.length_cons]
    have := bulk_len l
    have := bulk_pos x
    omega
/-- The cells cs read as a value of type t, of no great bulk. -/
def Tr (w : World) (t : TypeId) (cs : List Value) : Prop := ∃ (H : Type) (enc : TypeId × Value → H) (fuel : Nat) (x : DataW H × List MemPlace), DataW.trod enc Tryd.prog w 0 (fun _ => true) true fuel t cs = some x ∧ Rows.uptoBulk x.1 ≤ 1048576
theorem Tr.int {w : World} {t : TypeId} {k : IntKind} {cs : List Value} (hu : Tryd.prog.underlying t = some (.int k)) (h : Tr w t cs) : ∃ n, cs = [.int k n] ∧ (Lit.int k n).wf = true := by
  obtain ⟨H, enc, fuel, x, h, hbk⟩ := h
  obtain ⟨n, h1, _, h2⟩ := DataW.trod_int hu h
  exact ⟨n, h1, h2⟩
theorem Tr.bool {w : World} {t : TypeId} {cs : List Value} (hu : Tryd.prog.underlying t = some .bool) (h : Tr w t cs) : ∃ b, cs = [.bool b] := by
  obtain ⟨H, enc, fuel, x, h, hbk⟩ := h
  obtain ⟨n, h1, _⟩ := DataW.trod_bool hu h
  exact ⟨n, h1⟩
theorem Tr.str {w : World} {t : TypeId} {cs : List Value} (hu : Tryd.prog.underlying t = some .string) (h : Tr w t cs) : ∃ s : ByteArray, cs = [.string s] ∧ s.size ≤ maxLen := by
  obtain ⟨H, enc, fuel, x, h, hbk⟩ := h
  obtain ⟨n, h1, _, h2⟩ := DataW.trod_string hu h
  exact ⟨n, h1, h2⟩
theorem Tr.struct {w : World} {t : TypeId} {fs : Array Field} {cs : List Value} (hu : Tryd.prog.underlying t = some (.struct fs)) (h : Tr w t cs) : cs.length = Tryd.prog.cellsOf t ∧ ∀ (i : Nat) (f : Field), fs[i]? = some f → Tr w f.type ((cs.drop f.offset).take (Tryd.prog.cellsOf f.type)) := by
  obtain ⟨H, enc, fuel, x, h, hbk⟩ := h
  obtain ⟨xs, n, _, hxx, hl, hx, hf⟩ := DataW.trod_struct hu h
  refine ⟨hl, fun i f hi => ?_⟩
  have hi2 : i < xs.length := by rw [hx]; exact (Array.getElem?_eq_some_iff.1 hi).1
  refine ⟨H, enc, n, xs[i], by rw [hf i f hi]; exact List.getElem?_eq_getElem hi2, ?_⟩
  rw [hxx] at hbk
  simp only [Rows.uptoBulk] at hbk
  have := bulk_mem (d := xs[i].1) (l := xs.map (·.1)) (List.mem_map_of_mem (List.getElem_mem hi2))
  omega
set_option maxRecDepth 100000 in
theorem Tr.field {w : World} {fs : Array Field} {cs : List Value} (hf : ∀ (i : Nat) (f : Field), fs[i]? = some f → Tr w f.type ((cs.drop f.offset).take (Tryd.prog.cellsOf f.type))) (i : Nat) {f : Field} (hi : fs[i]? = some f) {T : TypeId} {off n : Nat} (ht : f.type = T) (ho : f.offset = off) (hn : Tryd.prog.cellsOf T = n) : Tr w T ((cs.drop off).take n) := by
  subst ht ho
  rw [← hn]
  exact hf i f hi
theorem flatten_at (els : List (List Value)) (n : Nat) (hn : 0 < n) (h : ∀ el ∈ els, el.length = n) (j : Nat) (u : Value) (hu : els.flatten[j]? = some u) : ∃ (i : Nat) (r : List Value), r[j % n]? = some u ∧ i = j / n ∧ els[i]? = some r := by
  induction els generalizing j with
  | nil => simp at hu
  | cons x t ih =>
    have hx := h x (by simp)
    rw [List.flatten_cons] at hu
    by_cases hj : j < n
    · rw [List.getElem?_append_left (by omega)] at hu
      exact ⟨0, x, by rw [Nat.mod_eq_of_lt hj]; exact hu, by rw [Nat.div_eq_of_lt hj], rfl⟩
    · rw [List.getElem?_append_right (by omega), hx] at hu
      obtain ⟨i, r, h1, h2, h3⟩ := ih (fun el he => h el (by simp [he])) (j - n) hu
      refine ⟨i + 1, r, ?_, ?_, by simpa using h3⟩
      · rw [← h1, show j % n = (j - n) % n by rw [Nat.mod_eq_sub_mod (by omega)]]
      · have := Nat.div_eq_sub_div hn (show n ≤ j by omega); omega
/-- A slice that came in: its elements, n cells each. -/
theorem Tr.slice {w : World} {t e : TypeId} {n : Nat} {cs : List Value} (hu : Tryd.prog.underlying t = some (.slice e)) (hn : Tryd.prog.cellsOf e = n) (h : Tr w t cs) :
    ∃ A len cap, cs = [.slice A len cap] ∧ len ≤ cap ∧ cap ≤ 9223372036854775807 ∧ len ≤ 1048576 ∧ ∃ els : List (List Value), els.length = len ∧ (∀ el ∈ els, el.length = n ∧ Tr w e el) ∧ (0 < n → SlP (fun k => k < w.heap.size) w A els.flatten) := by
  obtain ⟨H, enc, fuel, x, h, hbk⟩ := h
  rcases DataW.trod_slice hu h with ⟨h1, _⟩ | ⟨a, len, cap, elems, rest, m, _, hcs, hxx, _, hl, hm, hlen, hel, _⟩
  · exact ⟨none, 0, 0, h1, Nat.le_refl _, by omega, by omega, [], rfl, fun el he => (by cases he), fun _ hn => absurd rfl hn⟩
  · unfold maxLen at hm
    rw [hn] at hel
    rw [hxx] at hbk
    simp only [Rows.uptoBulk] at hbk
    have hln : len ≤ 1048576 := by have := bulk_len (elems.map (·.1)); simp at this; omega
    have key : ∀ i, i < len → ∃ el, w.cells? 0 (a.add (i * n)) n = some el ∧ Tr w e el := fun i hi => by
      have := hel i hi
      have hi2 : i < elems.length := by omega
      rw [List.getElem?_eq_getElem hi2] at this
      obtain ⟨el, h1, h2⟩ := Option.bind_eq_some_iff.1 this
      refine ⟨el, h1, H, enc, m, _, h2, ?_⟩
      have := bulk_mem (d := elems[i].1) (l := elems.map (·.1)) (List.mem_map_of_mem (List.getElem_mem hi2))
      omega
    let els : List (List Value) := (List.range len).map fun i => (w.cells? 0 (a.add (i * n)) n).getD []
    have hels : ∀ i, i < len → els[i]? = some ((w.cells? 0 (a.add (i * n)) n).getD []) := fun i hi => by simp [els, hi]
    have hlen2 : els.length = len := by simp [els]
    refine ⟨some a, len, cap, hcs, hl, by omega, hln, els, hlen2, fun el he => ?_, fun h0 hne => ?_⟩
    · obtain ⟨i, hi, rfl⟩ := List.getElem_of_mem he
      have hi' : i < len := by omega
      obtain ⟨el, h1, h2⟩ := key i hi'
      have := hels i hi'
      rw [h1, List.getElem?_eq_getElem hi] at this
      have e2 : els[i] = el := by simpa using this
      rw [e2]
      exact ⟨(World.cells?_some h1).2.1, h2⟩
    · have hlp : 0 < len := by
        rcases Nat.eq_zero_or_pos len with h | h
        · have : els = [] := List.eq_nil_of_length_eq_zero (by omega)
          rw [this] at hne; exact absurd rfl hne
        · exact h
      have all : ∀ i, i < len → ∀ j, j < n → ∃ el v, els[i]? = some el ∧ el.length = n ∧ el[j]? = some v ∧ w.cell? (a.add (i * n + j)) = some v := fun i hi j hj => by
        obtain ⟨el, h1, h2⟩ := key i hi
        have h3 := World.cells?_some h1
        have he : els[i]? = some el := by rw [hels i hi, h1]; rfl
        have h4 := h3.2.2 j hj
        have hj2 : j < el.length := by rw [h3.2.1]; exact hj
        rw [List.getElem?_eq_getElem hj2, add_add] at h4
        exact ⟨el, el[j], he, h3.2.1, List.getElem?_eq_getElem hj2, h4⟩
      obtain ⟨_, v0, _, _, _, hc0⟩ := all 0 hlp 0 h0
      obtain ⟨b, o, spot⟩ := a
      have hspot : spot = none := by simpa [Addr.add] using World.cell?_spot hc0
      subst hspot
      refine ⟨b, o, rfl, by have := block_lt_of_cell hc0; simpa [Addr.add] using this, fun j u hu => ?_⟩
      have hall : ∀ el ∈ els, el.length = n := fun el he => by
        obtain ⟨i, hi, rfl⟩ := List.getElem_of_mem he
        obtain ⟨el, v, h1, h2, _⟩ := all i (by omega) 0 h0
        rw [List.getElem?_eq_getElem hi] at h1
        have e2 : els[i] = el := by simpa using h1
        rw [e2]; exact h2
      obtain ⟨i, r, hr, hi, hv⟩ := flatten_at els n h0 hall j u hu
      subst hi
      obtain ⟨el, v, h1, _, h3, h4⟩ := all (j / n) (by have := (List.getElem?_eq_some_iff.1 hv).1; omega) (j % n) (Nat.mod_lt _ h0)
      have h1' := Option.some.inj (hv.symm.trans h1)
      subst h1'
      have h3' := Option.some.inj (hr.symm.trans h3)
      subst h3'
      rw [show j / n * n + j % n = j by rw [Nat.mul_comm]; exact Nat.div_add_mod j n] at h4
      have e : (⟨b, o, none⟩ : Addr).add j = ⟨b, o + j, none⟩ := by unfold Addr.add; split <;> simp_all
      rw [e] at h4
      exact h4

/-- A fact, cell by cell. -/
structure Fct where
  step : Int
  kind : Int
  peer : Int
  dir : Int
  ev : Int
  frm : Int
  to : Int
  sent : Value
  fcode : Int
  fsub : Int
  fdata : Value
  gone : Value
  orig : Int
  path : Value
  nxt : Int
  med : Int
  pref : Int
  atomic : Bool
  hasAggr : Bool
  aggrAS : Int
  aggrAddr : Int
  comms : Value
  raws : Value
  news : Value
  id : Int
  outs : Bool
  rules : Value
  commit : Int
def Fct.cells (f : Fct) : List Value := [.int .i64 f.step, .int .i64 f.kind, .int .i64 f.peer, .int .i64 f.dir, .int .i64 f.ev, .int .i64 f.frm, .int .i64 f.to, f.sent, .int .i64 f.fcode, .int .i64 f.fsub, f.fdata, f.gone, .int .i64 f.orig, f.path, .int .u32 f.nxt, .int .i64 f.med, .int .i64 f.pref, .bool f.atomic, .bool f.hasAggr, .int .u32 f.aggrAS, .int .u32 f.aggrAddr, f.comms, f.raws, f.news, .int .u32 f.id, .bool f.outs, f.rules, .int .i64 f.commit]
set_option maxRecDepth 100000 in
theorem fact_parts {w : World} {cs : List Value} (h : Tr w 102 cs) : ∃ f : Fct, cs = f.cells ∧ 0 ≤ f.id ∧ f.id ≤ 4294967295 ∧ Tr w 88 [f.sent] ∧ Tr w 39 [f.fdata] ∧ Tr w 93 [f.gone] ∧ Tr w 94 [f.path] ∧ Tr w 26 [f.comms] ∧ Tr w 95 [f.raws] ∧ Tr w 93 [f.news] ∧ Tr w 100 [f.rules] := by
  obtain ⟨hl, hf⟩ := Tr.struct Tryd.underlying102 h
  rw [show Tryd.prog.cellsOf 102 = 28 by kernel_rfl] at hl
  match cs, hl with
  | [v0, v1, v2, v3, v4, v5, v6, v7, v8, v9, v10, v11, v12, v13, v14, v15, v16, v17, v18, v19, v20, v21, v22, v23, v24, v25, v26, v27], _ =>
    have e0 : Tr w 3 [v0] := Tr.field (T := 3) (off := 0) (n := 1) hf 0 rfl rfl rfl (by kernel_rfl)
    have e1 : Tr w 3 [v1] := Tr.field (T := 3) (off := 1) (n := 1) hf 1 rfl rfl rfl (by kernel_rfl)
    have e2 : Tr w 3 [v2] := Tr.field (T := 3) (off := 2) (n := 1) hf 2 rfl rfl rfl (by kernel_rfl)
    have e3 : Tr w 3 [v3] := Tr.field (T := 3) (off := 3) (n := 1) hf 3 rfl rfl rfl (by kernel_rfl)
    have t5 : Tr w 92 [v4, v5, v6, v7, v8, v9, v10] := Tr.field (T := 92) (off := 4) (n := 7) hf 4 rfl rfl rfl (by kernel_rfl)
    obtain ⟨_, t5f⟩ := Tr.struct Tryd.underlying92 t5
    have e4 : Tr w 3 [v4] := Tr.field (T := 3) (off := 0) (n := 1) t5f 0 rfl rfl rfl (by kernel_rfl)
    have e5 : Tr w 3 [v5] := Tr.field (T := 3) (off := 1) (n := 1) t5f 1 rfl rfl rfl (by kernel_rfl)
    have e6 : Tr w 3 [v6] := Tr.field (T := 3) (off := 2) (n := 1) t5f 2 rfl rfl rfl (by kernel_rfl)
    have e7 : Tr w 88 [v7] := Tr.field (T := 88) (off := 3) (n := 1) t5f 3 rfl rfl rfl (by kernel_rfl)
    have t10 : Tr w 90 [v8, v9, v10] := Tr.field (T := 90) (off := 4) (n := 3) t5f 4 rfl rfl rfl (by kernel_rfl)
    obtain ⟨_, t10f⟩ := Tr.struct Tryd.underlying90 t10
    have e8 : Tr w 3 [v8] := Tr.field (T := 3) (off := 0) (n := 1) t10f 0 rfl rfl rfl (by kernel_rfl)
    have e9 : Tr w 3 [v9] := Tr.field (T := 3) (off := 1) (n := 1) t10f 1 rfl rfl rfl (by kernel_rfl)
    have e10 : Tr w 39 [v10] := Tr.field (T := 39) (off := 2) (n := 1) t10f 2 rfl rfl rfl (by kernel_rfl)
    have t14 : Tr w 99 [v11, v12, v13, v14, v15, v16, v17, v18, v19, v20, v21, v22, v23] := Tr.field (T := 99) (off := 11) (n := 13) hf 5 rfl rfl rfl (by kernel_rfl)
    obtain ⟨_, t14f⟩ := Tr.struct Tryd.underlying99 t14
    have e11 : Tr w 93 [v11] := Tr.field (T := 93) (off := 0) (n := 1) t14f 0 rfl rfl rfl (by kernel_rfl)
    have t16 : Tr w 97 [v12, v13, v14, v15, v16, v17, v18, v19, v20, v21, v22] := Tr.field (T := 97) (off := 1) (n := 11) t14f 1 rfl rfl rfl (by kernel_rfl)
    obtain ⟨_, t16f⟩ := Tr.struct Tryd.underlying97 t16
    have e12 : Tr w 3 [v12] := Tr.field (T := 3) (off := 0) (n := 1) t16f 0 rfl rfl rfl (by kernel_rfl)
    have e13 : Tr w 94 [v13] := Tr.field (T := 94) (off := 1) (n := 1) t16f 1 rfl rfl rfl (by kernel_rfl)
    have e14 : Tr w 23 [v14] := Tr.field (T := 23) (off := 2) (n := 1) t16f 2 rfl rfl rfl (by kernel_rfl)
    have e15 : Tr w 3 [v15] := Tr.field (T := 3) (off := 3) (n := 1) t16f 3 rfl rfl rfl (by kernel_rfl)
    have e16 : Tr w 3 [v16] := Tr.field (T := 3) (off := 4) (n := 1) t16f 4 rfl rfl rfl (by kernel_rfl)
    have e17 : Tr w 4 [v17] := Tr.field (T := 4) (off := 5) (n := 1) t16f 5 rfl rfl rfl (by kernel_rfl)
    have e18 : Tr w 4 [v18] := Tr.field (T := 4) (off := 6) (n := 1) t16f 6 rfl rfl rfl (by kernel_rfl)
    have e19 : Tr w 23 [v19] := Tr.field (T := 23) (off := 7) (n := 1) t16f 7 rfl rfl rfl (by kernel_rfl)
    have e20 : Tr w 23 [v20] := Tr.field (T := 23) (off := 8) (n := 1) t16f 8 rfl rfl rfl (by kernel_rfl)
    have e21 : Tr w 26 [v21] := Tr.field (T := 26) (off := 9) (n := 1) t16f 9 rfl rfl rfl (by kernel_rfl)
    have e22 : Tr w 95 [v22] := Tr.field (T := 95) (off := 10) (n := 1) t16f 10 rfl rfl rfl (by kernel_rfl)
    have e23 : Tr w 93 [v23] := Tr.field (T := 93) (off := 12) (n := 1) t14f 2 rfl rfl rfl (by kernel_rfl)
    have e24 : Tr w 23 [v24] := Tr.field (T := 23) (off := 24) (n := 1) hf 6 rfl rfl rfl (by kernel_rfl)
    have e25 : Tr w 4 [v25] := Tr.field (T := 4) (off := 25) (n := 1) hf 7 rfl rfl rfl (by kernel_rfl)
    have e26 : Tr w 100 [v26] := Tr.field (T := 100) (off := 26) (n := 1) hf 8 rfl rfl rfl (by kernel_rfl)
    have e27 : Tr w 3 [v27] := Tr.field (T := 3) (off := 27) (n := 1) hf 9 rfl rfl rfl (by kernel_rfl)
    obtain ⟨x0, g0, k0⟩ := Tr.int Tryd.underlying3 e0
    injection g0 with g0 _
    subst g0
    obtain ⟨x1, g1, k1⟩ := Tr.int Tryd.underlying3 e1
    injection g1 with g1 _
    subst g1
    obtain ⟨x2, g2, k2⟩ := Tr.int Tryd.underlying3 e2
    injection g2 with g2 _
    subst g2
    obtain ⟨x3, g3, k3⟩ := Tr.int Tryd.underlying3 e3
    injection g3 with g3 _
    subst g3
    obtain ⟨x4, g4, k4⟩ := Tr.int Tryd.underlying3 e4
    injection g4 with g4 _
    subst g4
    obtain ⟨x5, g5, k5⟩ := Tr.int Tryd.underlying3 e5
    injection g5 with g5 _
    subst g5
    obtain ⟨x6, g6, k6⟩ := Tr.int Tryd.underlying3 e6
    injection g6 with g6 _
    subst g6
    obtain ⟨x8, g8, k8⟩ := Tr.int Tryd.underlying3 e8
    injection g8 with g8 _
    subst g8
    obtain ⟨x9, g9, k9⟩ := Tr.int Tryd.underlying3 e9
    injection g9 with g9 _
    subst g9
    obtain ⟨x12, g12, k12⟩ := Tr.int Tryd.underlying3 e12
    injection g12 with g12 _
    subst g12
    obtain ⟨x14, g14, k14⟩ := Tr.int Tryd.underlying23 e14
    injection g14 with g14 _
    subst g14
    obtain ⟨x15, g15, k15⟩ := Tr.int Tryd.underlying3 e15
    injection g15 with g15 _
    subst g15
    obtain ⟨x16, g16, k16⟩ := Tr.int Tryd.underlying3 e16
    injection g16 with g16 _
    subst g16
    obtain ⟨x17, g17⟩ := Tr.bool Tryd.underlying4 e17
    injection g17 with g17 _
    subst g17
    obtain ⟨x18, g18⟩ := Tr.bool Tryd.underlying4 e18
    injection g18 with g18 _
    subst g18
    obtain ⟨x19, g19, k19⟩ := Tr.int Tryd.underlying23 e19
    injection g19 with g19 _
    subst g19
    obtain ⟨x20, g20, k20⟩ := Tr.int Tryd.underlying23 e20
    injection g20 with g20 _
    subst g20
    obtain ⟨x24, g24, k24⟩ := Tr.int Tryd.underlying23 e24
    injection g24 with g24 _
    subst g24
    obtain ⟨x25, g25⟩ := Tr.bool Tryd.underlying4 e25
    injection g25 with g25 _
    subst g25
    obtain ⟨x27, g27, k27⟩ := Tr.int Tryd.underlying3 e27
    injection g27 with g27 _
    subst g27
    have hid : 0 ≤ x24 ∧ x24 ≤ 4294967295 := bounds_u32 k24
    exact ⟨⟨x0, x1, x2, x3, x4, x5, x6, v7, x8, x9, v10, v11, x12, v13, x14, x15, x16, x17, x18, x19, x20, v21, v22, v23, x24, x25, v26, x27⟩, rfl, hid.1, hid.2, e7, e10, e11, e13, e21, e22, e23, e26⟩

end Go.Proofs.YtoockgijliacdaaDoor
