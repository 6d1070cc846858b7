/- The iterator over the lines of bytes: its contract. -/
import Derived.Test.YtoockgijliacdaaDoorArf
import Derived.Test.YtoockgijliacdaaDoorA1
import Derived.Test.YtoockgijliacdaaDoorASh
namespace Go.Proofs.YtoockgijliacdaaDoor
open Go.RowKit Go.Shelf

theorem SlP.sl {S : Nat → Prop} {w : World} {A : Option Addr} {xs : List Value} (h : SlP S w A xs) : Sl S w A xs := fun hn => by
  obtain ⟨b, o, rfl, hb, hc⟩ := h hn
  refine ⟨_, rfl, hb, fun j u hu => ?_⟩
  have e : (⟨b, o, none⟩ : Addr).add j = ⟨b, o + j, none⟩ := by unfold Addr.add; split <;> simp_all
  rw [e]
  exact hc j u hu
theorem SlP.take {S : Nat → Prop} {w : World} {A : Option Addr} {xs : List Value} (h : SlP S w A xs) (k : Nat) : SlP S w A (xs.take k) := fun hn => by
  obtain ⟨b, o, rfl, hb, hc⟩ := h (by rintro rfl; simp at hn)
  refine ⟨b, o, rfl, hb, fun j u hu => hc j u ?_⟩
  rw [List.getElem?_take] at hu
  split at hu
  · exact hu
  · cases hu
theorem run_ib {S : Nat → Prop} {w : World} {A : Option Addr} {l : List UInt8} (h : Sl S w A (l.map bval)) (c : Nat) (cv : Int) :
    (Extern.BytealgIndexByte.indexByte #[.slice A l.length c, .int .u8 cv]).run Tryd.prog w = .ok (.int .i64 (Lib.indexByte l cv.toNat.toUInt8)) w := by
  cases A with
  | none =>
    have : l = [] := Classical.byContradiction fun hn => by obtain ⟨ad, e, _⟩ := h (by simpa using hn); cases e
    subst this
    exact Lib.run_indexByteNil w 0 c cv
  | some ad =>
    have hl := Lib.run_loadBytesX (P := Tryd.prog) w (l.map fun c => (c.toNat : Int)) ad .empty (fun j x hj => by
      obtain ⟨ad', e, _, hc⟩ := h (by rintro hn; simp at hn; subst hn; simp at hj)
      cases e
      refine hc j _ ?_
      rw [List.getElem?_map] at hj ⊢
      cases hlj : l[j]? with
      | none => rw [hlj] at hj; cases hj
      | some y => rw [hlj] at hj; simp at hj; subst hj; rfl)
    have eb : Lib.bytesOf (l.map fun c => (c.toNat : Int)) = l := by simp [Lib.bytesOf, Function.comp_def]
    rw [eb, List.length_map] at hl
    have hs := Lib.run_indexByteString (P := Tryd.prog) ⟨l.toArray⟩ cv w
    have he : (⟨ByteArray.empty.data ++ l.toArray⟩ : ByteArray) = ⟨l.toArray⟩ := by
      apply ByteArray.ext
      show (#[] : Array UInt8) ++ l.toArray = l.toArray
      simp
    rw [he] at hl
    change Sem.run Tryd.prog (do
      let b ← Extern.Bytes.bytesOf (.slice (some ad) l.length c)
      let c ← Extern.Bytes.asByte (.int .u8 cv)
      match (List.range b.size).find? fun i => b[i]! == c with
      | some i => pure (goInt i)
      | none => pure (goInt (-1))) w = _
    change Sem.run Tryd.prog (do
      let b ← Extern.Bytes.bytesOf (.string ⟨l.toArray⟩)
      let c ← Extern.Bytes.asByte (.int .u8 cv)
      match (List.range b.size).find? fun i => b[i]! == c with
      | some i => pure (goInt i)
      | none => pure (goInt (-1))) w = _ at hs
    simp only [Extern.Bytes.bytesOf, Sem.run_bind, Sem.run_pure, hl, Result.andThen] at hs ⊢
    simpa using hs

set_option maxRecDepth 100000 in
theorem ib_any {S : Nat → Prop} (w : World) (A : Option Addr) (l : List UInt8) (c : Nat) (h : Sl S w A (l.map bval)) :
    Calls Tryd.prog 71 #[.slice A l.length c, .int .u8 10] w fun e w' => e = .returned (.int .i64 (Lib.indexByte l 10)) ∧ w' = w := by
  have hr := run_ib h c 10
  go_enter Tryd.func71, Tryd.ntmps71
  go_wp2
  rw [run_callFunc_extern Tryd.func97 (by kernel_rfl) (by kernel_rfl) (by kernel_rfl) (e := Extern.BytealgIndexByte.indexByte) (by kernel_rfl), hr]
  simp only [Result.andThen]
  rw [Oper.upon_value]
  go_wp2
  go_ret
  exact ⟨rfl, rfl⟩

theorem lines_any (w : World) (v : Value) (A : Option Addr) (n c : Nat) (hv : v = .slice A n c) :
    Calls Tryd.prog 42 #[v] w fun e w' => e = .returned (.func (.func 70) #[] #[.pointer (some ⟨w.heap.size, 0, none⟩)]) ∧ w' = w.alloc (.cells #[v] 39) := by
  subst hv
  go_enter Tryd.func42, Tryd.ntmps42
  go_wp2
  go_ret
  exact ⟨rfl, rfl⟩

/-- How many bytes are left, as the memory says. -/
def boxLen (w : World) (g : Nat) : Nat := match w.cell? ⟨g, 0, none⟩ with | some (.slice _ n _) => n | _ => 0

set_option maxRecDepth 100000 in
set_option maxHeartbeats 2000000 in
theorem lines1_seq (n : Nat) (hn : 1 ≤ n) (N0 Bn : Nat) (hNB : N0 ≤ Bn) (l0 : List UInt8) (A : Option Addr) (c : Nat) (w : World) (hb : Blk w Bn 39 #[.slice A l0.length c]) (hc : l0.length ≤ c) (hm : c ≤ 9223372036854775807) (hs : SlP (fun k => k < N0) w A (l0.map bval)) :
    SeqBox Fence.wide n Tryd.prog 70 #[.pointer (some ⟨Bn, 0, none⟩)] (fun x : List UInt8 => #[Value.string (str x)]) N0 Bn (linesB [] l0) w := by
  intro l J W hK hJ hY h0
  have hlt : Bn < w.heap.size := hb.lt
  have hb1 : Blk W Bn 39 #[.slice A l0.length c] := (hK.same Bn (.inr rfl)).trans hb
  have keep : ∀ (X Y : World) (A : Option Addr) (xs : List Value), Kp N0 Bn X Y → SlP (fun k => k < N0) X A xs → SlP (fun k => k < N0) Y A xs := fun X Y A xs hk h he => by
    obtain ⟨b, o, e, hs, hc⟩ := h he
    refine ⟨b, o, e, hs, fun j u hu => ?_⟩
    have hc' := hc j u hu
    exact (World.cell?_of_block (w := X) (by exact hk.same b (.inl hs))).trans hc'
  have hs1 := keep _ _ _ _ hK hs
  have START : Hid (∃ pre rest A' c', linesB [] l0 = pre ++ linesB [] rest ∧ J pre W ∧ Blk W Bn 39 #[.slice A' rest.length c'] ∧ rest.length ≤ c' ∧ c' ≤ 9223372036854775807 ∧ SlP (fun k => k < N0) W A' (rest.map bval) ∧ rest.length = l0.length) :=
    Lib.hid ⟨[], l0, A, c, rfl, h0, hb1, hc, hm, hs1, rfl⟩
  have HB1 := Lib.hid hb1
  clear hb hs hs1 hK h0 hb1 hlt
  refine callsIn_of_wp Tryd.func70 rfl trivial ?_ rfl
  simp only [Tryd.ntmps70, List.size_toArray, List.length_cons, List.length_nil, Nat.reduceAdd, Nat.reduceSub, Array.replicate_succ, Array.replicate_zero, List.push_toArray, List.append_toArray, List.nil_append, List.cons_append]
  gi_wp2
  gi_loopw [] (fun wr => ∃ m : Nat, boxLen wr Bn = m ∧ Hid (∃ pre rest A' c', linesB [] l0 = pre ++ linesB [] rest ∧ J pre wr ∧ Blk wr Bn 39 #[.slice A' rest.length c'] ∧ rest.length ≤ c' ∧ c' ≤ 9223372036854775807 ∧ SlP (fun k => k < N0) wr A' (rest.map bval) ∧ rest.length = m)) (fun wr => boxLen wr Bn)
  case atStart => exact ⟨l0.length, by unfold boxLen; rw [HB1.out.cell_ 0 rfl]; rfl, START⟩
  case round =>
    obtain ⟨m, hm1, hh⟩ := hrel
    have HM := Lib.hid hm1
    clear hm1 START HB1
    obtain ⟨pre, rest, A', c', e1, hj, hb, hc1, hc2, hs, hlen⟩ := hh.out
    have cell := hb.cell_ 0 rfl
    have fro := hb.frozen 0
    have HS := Lib.hid hs.sl
    have IB := Lib.hid (ib_any wr A' rest c' HS.out)
    have KEEP := Lib.hid keep
    have HSP := Lib.hid hs
    have HB := Lib.hid hb
    subst hlen
    have HE := Lib.hid e1
    have HJ := Lib.hid hj
    clear hs hb e1 hj keep
    rcases byte_cases rest 10 with ⟨h1, h2⟩ | ⟨a, r, h1, h2, h3⟩
    · have IX := IB.out
      rw [h1] at IX
      have IX2 := Lib.hid IX
      have END : Hid (J (linesB [] l0) wr) := Lib.hid (by rw [HE.out, linesB_none _ _ h2, List.append_nil]; exact HJ.out)
      clear IX h1 h2 hh
      gi_wp2_with fail
      refine ⟨trivial, (callsIn_wide.2 IX2.out).mono ?_⟩
      rintro e w' ⟨rfl, rfl⟩
      gi_wp2
      refine ⟨fun _ h => (by cases h), ?_⟩
      gi_wp2
      refine bodyPost_ret (results_none rfl _ _ _) rfl ?_
      exact ⟨⟨_, rfl⟩, END.out⟩
    · have IX := IB.out
      rw [h3] at IX
      have IX2 := Lib.hid IX
      have HLL : Hid (a.length + 1 + r.length = rest.length) := Lib.hid (by rw [h1]; simp; omega)
      have HY := hY pre a (linesB [] r) wr (by rw [HE.out, h1, linesB_cut _ _ _ h2]; rfl) HJ.out
      obtain ⟨fn, tmps, assign, body, hy, hR⟩ := HY
      have HR := Lib.hid hR
      have hcv : (convert 39 9 (.slice A' a.length c')).run Tryd.prog wr = .ok (.string (str a)) wr := by
        have e : (rest.map bval).take a.length = a.map bval := by rw [h1]; simp
        have := (HSP.out.take a.length).sl
        rw [e] at this
        exact run_b2s this c'
      have DR : Hid (∀ W3, Kp N0 Bn wr W3 → SlP (fun k => k < N0) W3 (if c' = a.length + 1 then A' else A'.map (·.add (a.length + 1))) (r.map bval)) := Lib.hid (fun W3 hk => by
        have h := KEEP.out _ _ _ _ hk HSP.out
        have e : (rest.map bval).drop (a.length + 1) = r.map bval := by
          rw [h1, List.map_append, List.map_cons, show a.map bval ++ bval 10 :: r.map bval = (a.map bval ++ [bval 10]) ++ r.map bval by simp]
          exact List.drop_left' (by simp)
        cases hr : r with
        | nil => exact fun hn => absurd rfl hn
        | cons x r' =>
          rw [← hr]
          have hl : a.length + 1 < rest.length := by rw [h1, hr]; simp
          rw [if_neg (by omega)]
          have := h.drop (a.length + 1) (by omega) (by simpa using hl)
          rwa [e] at this)
      have HE2 : Hid (linesB [] l0 = (pre ++ [a]) ++ linesB [] r) := Lib.hid (by rw [HE.out, h1, linesB_cut _ _ _ h2]; simp)
      have hA : ∃ b o, A' = some ⟨b, o, none⟩ := by
        obtain ⟨b, o, e, _⟩ := HSP.out (by rw [h1]; simp)
        exact ⟨b, o, e⟩
      obtain ⟨b, o, rfl⟩ := hA
      have hle : a.length + 1 ≤ rest.length := by have := HLL.out; omega
      have hmc : rest.length ≤ c' := hc1
      clear IX h1 h2 h3 hR hh
      gi_wp2_with fail
      refine ⟨trivial, (callsIn_wide.2 IX2.out).mono ?_⟩
      rintro e w' ⟨rfl, rfl⟩
      gi_wp2_with fail
      refine HR.out.mono ?_
      rintro e W3 ⟨rfl, hJ3, hk3⟩
      have hb3 : Blk W3 Bn 39 #[.slice (some ⟨b, o, none⟩) rest.length c'] := (hk3.same Bn (.inr rfl)).trans HB.out
      have cell3 := hb3.cell_ 0 rfl
      have fro3 := hb3.frozen 0
      have D3 := DR.out W3 hk3
      have HB3 := Lib.hid hb3
      have HJ3 := Lib.hid hJ3
      clear hb3 hJ3 hk3
      have hrl : rest.length = a.length + 1 + r.length := HLL.out.symm
      have NEXT : Hid (∀ A4 c4, A4 = (if c' = a.length + 1 then (some ⟨b, o, none⟩ : Option Addr) else some ⟨b, o + (a.length + 1), none⟩) → c4 = c' - (a.length + 1) →
          boxLen (W3.setCell ⟨Bn, 0, none⟩ (.slice A4 r.length c4)) Bn = r.length ∧ (∃ pre rest A' c', linesB [] l0 = pre ++ linesB [] rest ∧ J pre (W3.setCell ⟨Bn, 0, none⟩ (.slice A4 r.length c4)) ∧ Blk (W3.setCell ⟨Bn, 0, none⟩ (.slice A4 r.length c4)) Bn 39 #[.slice A' rest.length c'] ∧ rest.length ≤ c' ∧ c' ≤ 9223372036854775807 ∧ SlP (fun k => k < N0) (W3.setCell ⟨Bn, 0, none⟩ (.slice A4 r.length c4)) A' (rest.map bval) ∧ rest.length = r.length)) := Lib.hid (fun A4 c4 e4 ec => by
        have hbb : Blk (W3.setCell ⟨Bn, 0, none⟩ (.slice A4 r.length c4)) Bn 39 #[.slice A4 r.length c4] := HB3.out.set 0 _
        refine ⟨by unfold boxLen; rw [hbb.cell_ 0 rfl]; rfl, pre ++ [a], r, A4, c4, HE2.out, hJ _ _ _ HJ3.out, hbb, by omega, by omega, ?_, rfl⟩
        have eA : (some ⟨b, o, none⟩ : Option Addr).map (·.add (a.length + 1)) = some ⟨b, o + (a.length + 1), none⟩ := by simp [Addr.add]
        rw [eA] at D3
        rw [e4]
        refine SlP.keep D3 (R := fun k => k = Bn) ((Fr.refl _ W3).setCell (p := ⟨Bn, 0, none⟩) (fun _ => by exact (rfl : Bn = Bn)) _) (fun k hk e => by omega))
      clear D3 DR
      by_cases hcap : c' = a.length + 1
      · have hr0 : r = [] := List.eq_nil_of_length_eq_zero (by omega)
        subst hr0
        have K := NEXT.out (some ⟨b, o, none⟩) 0 (by rw [if_pos hcap]) (by omega)
        have K2 := Lib.hid K
        have MS : Hid (boxLen w' Bn = rest.length) := Lib.hid (by unfold boxLen; rw [HB.out.cell_ 0 rfl]; rfl)
        clear K NEXT
        gi_wp2_with fail
        go_roundw
        case rel => exact ⟨0, K2.out.1, Lib.hid K2.out.2⟩
        case measure =>
          have := K2.out.1
          have e : ([] : List UInt8).length = 0 := rfl
          rw [e] at this
          rw [this, MS.out]; omega
      · have K := NEXT.out (some ⟨b, o + (a.length + 1), none⟩) (c' - (a.length + 1)) (by rw [if_neg hcap]) rfl
        have K2 := Lib.hid K
        have MS : Hid (boxLen w' Bn = rest.length) := Lib.hid (by unfold boxLen; rw [HB.out.cell_ 0 rfl]; rfl)
        clear K NEXT
        gi_wp2_with fail
        go_roundw
        case rel => exact ⟨_, K2.out.1, Lib.hid K2.out.2⟩
        case measure => rw [K2.out.1, MS.out]; omega

end Go.Proofs.YtoockgijliacdaaDoor
