/- Contract: facts as the document has them. -/
import Derived.Test.YtoockgijliacdaaDoorSpr
import Derived.Great.BuildSlice
namespace Go.Proofs.YtoockgijliacdaaDoor
open Go.RowKit

theorem infoRfa : (Tryd.prog.info? 116).map (fun i => (i.zero.map (·.cells.size), i.size, i.bytes)) = some (some 28, 28, 328) := by kernel_rfl
theorem info_zero {P : Program} {t : TypeId} {a b c : Nat} (h : (P.info? t).map (fun i => (i.zero.map (·.cells.size), i.size, i.bytes)) = some (some a, b, c)) : ∃ i z, P.info? t = some i ∧ i.zero = some z ∧ z.cells.size = a ∧ i.size = b ∧ i.bytes = c := by
  cases hi : P.info? t with
  | none => rw [hi] at h; cases h
  | some i =>
    rw [hi] at h
    simp only [Option.map_some, Option.some.injEq, Prod.mk.injEq] at h
    obtain ⟨h1, h2, h3⟩ := h
    obtain ⟨z, hz, h4⟩ := Option.map_eq_some_iff.1 h1
    exact ⟨i, z, rfl, hz, h4, h2, h3⟩
theorem FactsC.snoc (fs : List Fct) (f : Fct) : FactsC (fs ++ [f]) = FactsC fs ++ f.cells := by simp [FactsC]

theorem fill_one {n : Nat} (h0 : 0 < n) (base cs : Array Value) (hb : base.size = n) (hc : cs.size = n) : Instr.fill (fun i => some (i * n, n)) base [(0, .agg cs)] = some cs := by
  obtain ⟨r, h1, h2, h3⟩ := Great.fill_dense h0 [.agg cs] 0 base (by intro v hv; simp at hv; subst hv; exact hc) (by simp [hb])
  have e : r = cs := by
    apply Array.ext_getElem?
    intro k
    rw [h3 k]
    by_cases hk : k < n
    · rw [if_pos (by simp; exact hk), Nat.div_eq_of_lt hk, Nat.mod_eq_of_lt hk]
      rfl
    · rw [if_neg (by simp; omega), Array.getElem?_eq_none (by omega), Array.getElem?_eq_none (by omega)]
  subst e
  exact h1
/-- A slice literal of one struct whose cells nobody names. -/
theorem wpList_buildOne {P : Program} {ops : Array Oper} {rest : List Oper} {o : Oper} {a : Act} {w : World} {Q : Exit → Act → World → Prop} (hg : o.guard = none) (t e : TypeId) (n : Nat) (x : Operand) (ho : o.op = .buildSlice t 1 #[(0, x)])
    (cs : Array Value) (hx : a.eval x = .agg cs) (ie : TypeInfo) (z : Value) (hu : P.underlying t = some (.slice e)) (hie : P.info? e = some ie) (hz : ie.zero = some z) (hsz : ie.size = n) (hzs : z.cells.size = n) (hc : cs.size = n) (h0 : 0 < n) (hn : n ≤ 1000)
    (H : Nat) (hH : w.heap.size = H)
    (h : wpList P ops Q rest (a.put o.dst (.slice (some ⟨H, 0, none⟩) 1 1)) (w.alloc (.cells cs e))) : wpList P ops Q (o :: rest) a w := by
  subst hH
  subst hsz
  refine wpList_buildSlice hg t e 1 _ ho cs ie z hu hie hz (by omega) (by omega) ?_ h
  have : (#[(0, x)].map fun (y : Nat × Operand) => (y.1, a.eval y.2)).toList = [(0, Value.agg cs)] := by simp [hx]
  exact (congrArg _ this).trans (fill_one h0 _ cs (by simp) hc)
def PlainFPost (w : World) (fs : List Fct) (e : Ending) (w' : World) : Prop := ∃ v, e = .returned v ∧ w'.ownsRow w.heap.size 116 28 v fs.length (FactsC fs) ∧ Fr No w w'
set_option maxRecDepth 100000 in
set_option maxHeartbeats 2000000 in
theorem plainF_any {S : Nat → Prop} (w : World) (A : Option Addr) (c : Nat) (fs : List Fct) (h : SlP S w A (FactsC fs)) (ho : ∀ f ∈ fs, f.cells.toArray.all (·.oneCell') = true) (hl : fs.length ≤ 60) :
    Calls Tryd.prog 27 #[.slice A fs.length c] w (PlainFPost w fs) := by
  have H := Lib.hid h
  have HO := Lib.hid ho
  obtain ⟨n, hn⟩ : ∃ n, fs.length = n := ⟨_, rfl⟩
  rw [hn] at hl ⊢
  have HN := Lib.hid hn
  have hl2 : (n : Int) ≤ 60 := by omega
  have START : Hid (w.ownsRow w.heap.size 116 28 (.slice none 0 0) 0 (FactsC (fs.take 0)) ∧ Fr No w w) := Lib.hid ⟨World.ownsRow_nil _ _ _ _, Fr.refl _ _⟩
  clear h hn ho
  go_enter Tryd.func27, Tryd.ntmps27
  go_wp2_with fail
  go_loopw [3, 4] (fun vo i wr => ∃ k : Nat, k ≤ n ∧ i = .int .i64 (k : Int) ∧ Hid (wr.ownsRow w.heap.size 116 28 vo k (FactsC (fs.take k)) ∧ Fr No w wr)) (fun _ i _ => n - (intOf i).toNat)
  case atStart => exact ⟨0, Nat.zero_le _, rfl, START⟩
  case round =>
    obtain ⟨k, hk, rfl, hI⟩ := hrel
    clear START
    by_cases hlt : k < n
    · obtain ⟨f, hx⟩ : ∃ x, fs[k]? = some x := ⟨fs[k]'(by rw [HN.out]; exact hlt), List.getElem?_eq_getElem _⟩
      have htk : fs.take (k + 1) = fs.take k ++ [f] := by
        have hlt2 : k < fs.length := by rw [HN.out]; exact hlt
        rw [List.take_succ_eq_append_getElem hlt2]
        rw [List.getElem?_eq_getElem hlt2] at hx
        injection hx with hx
        rw [hx]
      obtain ⟨b, o, rfl, hload⟩ := fact_load2 (P := Tryd.prog) 102 (Tryd.isAgg102 _) (Tryd.sizeOf102 _) (H.out.keep hI.out.2 (fun _ _ => id)) hx
      obtain ⟨cs, hcs⟩ : ∃ cs, f.cells.toArray = cs := ⟨_, rfl⟩
      rw [hcs] at hload
      have HLD := Lib.hid hload
      have HCL : Hid (cs.toList = f.cells) := Lib.hid (by rw [← hcs])
      have HSZ : Hid (cs.size = 28) := Lib.hid (by rw [← hcs]; rfl)
      have hone : cs.all (·.oneCell') = true := by rw [← hcs]; exact HO.out f (List.mem_of_getElem? hx)
      have HONE : Hid (∀ u ∈ cs.toList, u.oneCell' = true) := Lib.hid (by intro u hu; rw [Array.all_eq_true'] at hone; exact hone u (by simpa using hu))
      have HOW := Lib.hid hI.out.1
      have HF := Lib.hid hI.out.2
      have TK : Hid (FactsC (fs.take (k + 1)) = FactsC (fs.take k) ++ cs.toList) := Lib.hid (by rw [htk, FactsC.snoc, HCL.out])
      clear hI hx htk hload hcs hone
      obtain ⟨i0, z0, hi, hz0, hz1, hz2, hz3⟩ := info_zero infoRfa
      go_wp2_with (first
        | (refine wpList_load_agg rfl 102 (.tmp 14) rfl ⟨b, o + k * 28, none⟩ rfl cs HLD.out ?_)
        | (refine wpList_buildOne rfl 60 116 28 (.tmp 15) rfl cs rfl i0 z0 Tryd.underlying60 hi hz0 hz2 hz1 HSZ.out (by decide) (by decide) wr.heap.size rfl ?_)
        | (at_builtin; go_loud (refine wpList_append_lies _ rfl _ _ 60 rfl w.heap.size 116 i0 z0 28 328 Tryd.underlying60 hi hz0 hz2 hz3 hz1 (by decide) _ _ _ rfl (HOW.out.alloc _) ⟨wr.heap.size, 0, none⟩ 1 1 cs.toList rfl (by simp [HSZ.out]) (new_cells0 _ _ rfl _ cs.toList) HONE.out (by decide) (by unfold maxLen; omega) (by omega) (by have := HF.out.size; simp only [World.size_alloc]; omega) _ rfl ?_); intro g1 cap1 w4 hown1 hgrow1 hat1 hlt1))
      go_roundw
      case rel =>
        refine ⟨k + 1, by omega, by go_num, Lib.hid ⟨by rw [TK.out]; exact hown1, ?_⟩⟩
        exact (HF.out.alloc _).then_ (R' := fun k => w.heap.size ≤ k) ((Fr.of_grown hgrow1).mono fun k hk => ((HOW.out.alloc (.cells #[.int .i64 0] 3)).lt k hk.symm).1) (fun i hi e => by omega)
      case measure => simp [intOf]; omega
    · have hkn : k = n := by omega
      subst hkn
      have HO2 := Lib.hid hI.out.1
      have HF := Lib.hid hI.out.2
      go_wp2_with fail
      go_ret
      refine ⟨_, rfl, ?_, HF.out⟩
      have e : fs.take k = fs := List.take_of_length_le (by rw [HN.out]; exact Nat.le_refl _)
      have := HO2.out
      rw [e] at this
      rw [HN.out]
      exact this

end Go.Proofs.YtoockgijliacdaaDoor
