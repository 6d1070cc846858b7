/- Contract of the reference's Replies. -/
import Derived.Test.YtoockgijliacdaaDoorAre
namespace Go.Proofs.YtoockgijliacdaaDoor
open Go.RowKit

theorem infoRf : (Tryd.prog.info? 108).map (fun i => (i.zero, i.size, i.bytes)) = some (some (.agg #[.int .i64 0, .slice none 0 0, .int .i64 0, .string { data := #[] }, .int .i64 0, .int .i64 0, .int .i64 0]), 7, 80) := by kernel_rfl
theorem ne_rf : (108 : TypeId) ≠ 9 ∧ (9 : TypeId) ≠ 108 := by decide

structure RfI (w : World) (st : Aus) (W : World) (B : Nat) (vo vw : Value) (cs : List Value) : Prop where
  fr : Fr No w W
  size : w.heap.size ≤ B ∧ B ≤ W.heap.size
  oo : W.ownsRow w.heap.size 108 7 vo st.out.length cs
  rc : RC (fun k => w.heap.size ≤ k ∧ k < B) W st.out cs
  ow : W.ownsRow B 9 1 vw st.wait.length (st.wait.map strV)
theorem RfI.no {w : World} {st : Aus} {W W' : World} {B : Nat} {vo vw : Value} {cs : List Value} (h : RfI w st W B vo vw cs) (F : Fr No W W') : RfI w st W' B vo vw cs :=
  ⟨h.fr.trans F, ⟨h.size.1, Nat.le_trans h.size.2 F.size⟩, own_keep h.oo F, h.rc.map (fun _ _ s => s.keep F (fun _ _ => id)), own_keep h.ow F⟩
theorem RfI.wait {w : World} {st : Aus} {W w1 : World} {B : Nat} {vo vw v' : Value} {cs : List Value} {x : List UInt8} {tmp : Obj} (h : RfI w st W B vo vw cs)
    (hown : w1.ownsRow B 9 1 v' (st.wait.length + 1) (st.wait.map strV ++ [strV x])) (hg : (W.alloc tmp).grownBy w1 vw.ownBlock) (a b : Nat) :
    RfI w ⟨st.out, st.wait ++ [x], a, b⟩ w1 B vo v' cs := by
  have h1 := h.no ((Fr.refl No W).alloc tmp)
  have F1 : Fr (fun k => B ≤ k) (W.alloc tmp) w1 := (Fr.of_grown hg).mono fun k hk => (h1.ow.lt k hk.symm).1
  have hz := h1.size
  refine ⟨h1.fr.then_ F1 (fun i hi e => by omega), ⟨hz.1, by have := F1.size; omega⟩, h1.oo.kept hg (own_ne h1.oo h1.ow ne_rf.1), h1.rc.map (fun _ _ s => s.keep F1 (fun k hk e => by omega)), by simpa using hown⟩
theorem RfI.put {w : World} {st : Aus} {W w1 : World} {B : Nat} {vo vw v' : Value} {cs : List Value} {r : Rpl} {tmp : Obj} (h : RfI w st W B vo vw cs)
    (hown : w1.ownsRow w.heap.size 108 7 v' (st.out.length + 1) (cs ++ rplCells r vw)) (hg : (W.alloc tmp).grownBy w1 vo.ownBlock) (a b : Nat) :
    RfI w ⟨st.out ++ [(r, st.wait)], [], a, b⟩ w1 w1.heap.size v' (.slice none 0 0) (cs ++ rplCells r vw) := by
  have h1 := h.no ((Fr.refl No W).alloc tmp)
  have F1 : Fr (fun k => w.heap.size ≤ k) (W.alloc tmp) w1 := (Fr.of_grown hg).mono fun k hk => (h1.oo.lt k hk.symm).1
  have hz := h1.size
  have hs := F1.size
  obtain ⟨A, c, hvw, hc1, hc2, hsl⟩ := own_slt h1.ow
  refine ⟨h1.fr.then_ F1 (fun i hi e => by omega), ⟨by omega, Nat.le_refl _⟩, by simpa using hown, ?_, World.ownsRow_nil _ _ _ _⟩
  rw [hvw]
  refine RC.snoc (h1.rc.map (fun _ _ s => (s.grown h1.oo ne_rf.1 hg).mono (fun k hk => ⟨hk.1, by omega⟩))) hc1 hc2 ?_
  exact (hsl.lt.grown h1.oo ne_rf.1 hg).mono (fun k hk => ⟨by omega, by omega⟩)

theorem restB_drop (acc l : List UInt8) : restB acc l = (acc ++ l).drop (lenL (linesB acc l)) := by
  induction l generalizing acc with
  | nil => simp [restB, linesB, lenL]
  | cons d l ih =>
    rw [restB_cons, linesB_cons]
    by_cases h : d = 10
    · rw [if_pos h, if_pos h, ih]
      have : lenL (acc :: linesB [] l) = (acc ++ [d]).length + lenL (linesB [] l) := by simp [lenL]
      rw [this, show acc ++ d :: l = (acc ++ [d]) ++ l by simp, ← List.drop_drop, List.drop_left]
      rfl
    · rw [if_neg h, if_neg h, ih]
      simp

theorem seven_new0 (W : World) (b : Nat) (hb : b = W.heap.size) (t : TypeId) (v0 v1 v2 v3 v4 v5 v6 : Value) : ∀ j u, [v0, v1, v2, v3, v4, v5, v6][j]? = some u → (W.alloc (.cells #[v0, v1, v2, v3, v4, v5, v6] t)).cell? ((⟨b, 0, none⟩ : Addr).add j) = some u := seven_new W b hb t v0 v1 v2 v3 v4 v5 v6

structure Rr (w : World) (l : List UInt8) (k : Nat) (W : World) (B : Nat) (vo vw : Value) (cs : List Value) (st : Aus) (cur : List UInt8) : Prop where
  st_ : audS (l.take k) = st
  cur_ : restB [] (l.take k) = cur
  i : RfI w st W B vo vw cs

set_option maxRecDepth 100000 in
set_option maxHeartbeats 2000000 in
theorem refReplies_any (w : World) (A : Option Addr) (c : Nat) (l : List UInt8) (hl : l.length ≤ 6000) (hc : l.length ≤ c) (hm : c ≤ 9223372036854775807) (hs : SlP (fun k => k < w.heap.size) w A (l.map bval)) :
    Calls Tryd.prog 20 #[.slice A l.length c] w (RepPost w l) := by
  have HS := Lib.hid hs
  have HC := Lib.hid hc
  have START : Hid (∃ B cs cur, Rr w l 0 w B (.slice none 0 0) (.slice none 0 0) cs aus0 cur) := Lib.hid ⟨w.heap.size, [], [], rfl, rfl, Fr.refl _ _, ⟨Nat.le_refl _, Nat.le_refl _⟩, World.ownsRow_nil _ _ _ _, rfl, World.ownsRow_nil _ _ _ _⟩
  obtain ⟨Ln, hLn⟩ : ∃ Ln, l.length = Ln := ⟨_, rfl⟩
  rw [hLn] at hl hc ⊢
  have HLn := Lib.hid hLn
  have hl2 : (Ln : Int) ≤ 6000 := by omega
  clear hs hLn
  go_enter Tryd.func20, Tryd.ntmps20
  go_wp2_with fail
  go_loopw [4, 5, 6, 7, 8] (fun vo vw fro la i wr => ∃ (k a b : Nat), k ≤ Ln ∧ i = .int .i64 (k : Int) ∧ fro = .int .i64 (a : Int) ∧ la = .int .i64 (b : Int) ∧ Hid (∃ B cs st cur, Rr w l k wr B vo vw cs st cur ∧ st.at_ = a ∧ st.end_ = b)) (fun _ _ _ _ i _ => Ln - (intOf i).toNat)
  case atStart => exact ⟨0, 0, 0, Nat.zero_le _, rfl, rfl, rfl, Lib.hid (by obtain ⟨B, cs, cur, h⟩ := START.out; exact ⟨B, cs, aus0, cur, h, rfl, rfl⟩)⟩
  case round =>
    obtain ⟨k, a, b, hk, rfl, rfl, rfl, hh⟩ := hrel
    clear START
    obtain ⟨B, cs, st, cur, R, ha, hb⟩ := hh.out
    have RR := Lib.hid R
    have hle : a + cur.length = k := by
      have h1 := lenL_lines [] (l.take k)
      have h2 := Aus.run_at (linesB [] (l.take k)) aus0
      have h3 : (audS (l.take k)).at_ = lenL (linesB [] (l.take k)) := by unfold audS; rw [h2]; simp [aus0]
      rw [R.st_, ha] at h3
      rw [R.cur_] at h1
      simp only [List.length_take, List.length_nil] at h1
      have := HLn.out
      omega
    have hsm : st.wait.length ≤ st.at_ ∧ st.out.length ≤ st.at_ := by rw [← R.st_]; exact Aus.small (x := aus0) ⟨Nat.le_refl _, Nat.le_refl _⟩
    have HSM : Hid (st.wait.length ≤ 6000 ∧ st.out.length ≤ 6000) := Lib.hid (by omega)
    have hba : b ≤ a := by rw [← ha, ← hb, ← R.st_]; exact (aus0_ok.run (l := linesB [] (l.take k))).1
    have HA := Lib.hid ha
    have HBB := Lib.hid hb
    have HCL : Hid (cur.length ≤ 6000) := Lib.hid (by omega)
    have HLE := Lib.hid hle
    clear hsm R ha hb hh
    by_cases hlt : k < Ln
    · have hlt2 : k < l.length := by rw [HLn.out]; exact hlt
      obtain ⟨x, hx⟩ : ∃ x, l[k]'hlt2 = x := ⟨_, rfl⟩
      have htk : l.take (k + 1) = l.take k ++ [x] := by rw [List.take_succ_eq_append_getElem hlt2, hx]
      obtain ⟨ab, ao, rfl, hab, hcell⟩ := HS.out (by intro e; have := congrArg List.length e; simp at this; subst this; simp at hlt2)
      have c0 : w.cell? ⟨ab, ao + k, none⟩ = some (.int .u8 (x.toNat : Int)) := hcell k _ (by rw [List.getElem?_map, List.getElem?_eq_getElem hlt2, hx]; rfl)
      have c1 : wr.cell? ⟨ab, ao + k, none⟩ = some (.int .u8 (x.toNat : Int)) := (World.cell?_of_block (w := w) (RR.out.i.fr.block ab hab id)).trans c0
      have SN := audS_snoc (l.take k) x
      have SR := restB_snoc [] (l.take k) x
      rw [← htk, RR.out.st_, RR.out.cur_] at SN
      rw [← htk, RR.out.cur_] at SR
      obtain ⟨z, hz⟩ : ∃ z : Int, (x.toNat : Int) = z := ⟨_, rfl⟩
      rw [hz] at c1
      by_cases h10 : z = 10
      · have hx10 : x = 10 := by apply UInt8.toNat_inj.1; show _ = 10; omega
        rw [if_pos hx10] at SN SR
        subst h10
        have hcur : cur = (l.take k).drop a := by
          have h2 := Aus.run_at (linesB [] (l.take k)) aus0
          have h3 : (audS (l.take k)).at_ = lenL (linesB [] (l.take k)) := by unfold audS; rw [h2]; simp [aus0]
          rw [RR.out.st_, HA.out] at h3
          rw [← RR.out.cur_, restB_drop, ← h3]
          rfl
        have hcv : (convert 39 9 (.slice (some ⟨ab, ao + a, none⟩) (k - a) (c - a))).run Tryd.prog wr = .ok (.string (str cur)) wr := by
          have e1 : k - a = cur.length := by omega
          rw [e1]
          refine run_b2s (S := fun _ => True) (fun hn => ⟨_, rfl, trivial, fun j u hu => ?_⟩) _
          have hj : j < cur.length := by
            rcases Nat.lt_or_ge j cur.length with h | h
            · exact h
            · rw [List.getElem?_eq_none (by simpa using h)] at hu; cases hu
          have hkj : a + j < k := by omega
          rw [show (⟨ab, ao + a, none⟩ : Addr).add j = ⟨ab, ao + (a + j), none⟩ by unfold Addr.add; split <;> simp_all; omega]
          have : (l.map bval)[a + j]? = some u := by
            rw [← hu, hcur, List.getElem?_map, List.getElem?_map, List.getElem?_drop, List.getElem?_take, if_pos hkj]
          have h0 := hcell (a + j) u this
          exact (World.cell?_of_block (w := w) (RR.out.i.fr.block ab hab id)).trans h0
        have hca : ¬ c = a := by omega
        have hak : a ≤ k := by omega
        have hkc : k ≤ c := by omega
        clear hcur hcell c0 hx htk hz hab
        have SN2 := Lib.hid SN
        have SR2 := Lib.hid SR
        have HLE3 := Lib.hid HLE.out
        clear SN SR hle hba
        go_wp2_with fail
        refine (end_any cur _ (by have := HCL.out; omega)).mono ?_
        rintro e w2 ⟨r, ok, rfl, h1, h2, f2⟩
        have K2 := Lib.hid (RR.out.i.no f2)
        clear f2 hcv c1
        unfold rplCells
        cases ok
        · have HE : Hid (endS cur = none) := Lib.hid (h2 rfl)
          have es : Hid (st.step cur = ⟨st.out, st.wait ++ [cur], k + 1, b⟩) := Lib.hid (by rw [Aus.step_none HE.out, HA.out, HBB.out, HLE.out])
          clear h1 h2
          have K3 := Lib.hid (K2.out.no ((Fr.refl No w2).alloc (.cells #[.int .i64 (r.kind : Int), .slice none 0 0, .int .i64 (r.num : Int), .string (str r.word), .int .i64 (r.a : Int), .int .i64 (r.b : Int), .int .i64 (r.c : Int)] 108)))
          obtain ⟨i0, hi, hz0, hz1, hz2⟩ := info_parts infoStr
          go_wp2_with (at_builtin; go_loud (refine wpList_append_lies _ rfl _ _ 83 rfl B 9 i0 (.string ByteArray.empty) 1 16 Tryd.underlying83 hi hz0 hz1 hz2 rfl (by decide) _ _ _ rfl (K3.out.ow.alloc _) ⟨w2.heap.size + 1, 0, none⟩ 1 1 [.string (str cur)] rfl rfl (by have := cell_one_new (w2.alloc (.cells #[.int .i64 (r.kind : Int), .slice none 0 0, .int .i64 (r.num : Int), .string (str r.word), .int .i64 (r.a : Int), .int .i64 (r.b : Int), .int .i64 (r.c : Int)] 108)) (.string (str cur)) 9; rw [World.size_alloc] at this; exact this) (by simp [Value.oneCell']) (by decide) (by have := HSM.out; unfold maxLen; omega) (by have := HSM.out; omega) (by have := K2.out.size.2; simp only [World.size_alloc]; omega) _ rfl ?_); intro g1 cap1 w4 hown1 hgrow1 hat1 hlt1)
          go_roundw
          case rel => exact ⟨k + 1, k + 1, b, by omega, by go_num, by go_num, rfl, Lib.hid ⟨B, cs, ⟨st.out, st.wait ++ [cur], k + 1, b⟩, [], ⟨SN2.out.trans es.out, SR2.out, K3.out.wait hown1 hgrow1 (k + 1) b⟩, rfl, rfl⟩⟩
          case measure => simp [intOf]; omega
        · have HE : Hid (endS cur = some r) := Lib.hid (h1 rfl)
          have es : Hid (st.step cur = ⟨st.out ++ [(r, st.wait)], [], k + 1, k + 1⟩) := Lib.hid (by rw [Aus.step_some HE.out, HA.out, HLE.out])
          clear h1 h2
          obtain ⟨Aw, cw, hvw, -, -, -⟩ := own_slt K2.out.ow
          subst hvw
          have K3 := Lib.hid (K2.out.no ((Fr.refl No w2).alloc (.cells #[.int .i64 (r.kind : Int), .slice Aw st.wait.length cw, .int .i64 (r.num : Int), .string (str r.word), .int .i64 (r.a : Int), .int .i64 (r.b : Int), .int .i64 (r.c : Int)] 108)))
          obtain ⟨i0, hi, hz0, hz1, hz2⟩ := info_parts infoRf
          go_wp2_with (at_builtin; go_loud (refine wpList_append_lies _ rfl _ _ 43 rfl w.heap.size 108 i0 (.agg #[.int .i64 0, .slice none 0 0, .int .i64 0, .string { data := #[] }, .int .i64 0, .int .i64 0, .int .i64 0]) 7 80 Tryd.underlying43 hi hz0 hz1 hz2 rfl (by decide) _ _ _ rfl (K3.out.oo.alloc (.cells #[.int .i64 (r.kind : Int), .slice Aw st.wait.length cw, .int .i64 (r.num : Int), .string (str r.word), .int .i64 (r.a : Int), .int .i64 (r.b : Int), .int .i64 (r.c : Int)] 108)) ⟨w2.heap.size + 1, 0, none⟩ 1 1 [.int .i64 (r.kind : Int), .slice Aw st.wait.length cw, .int .i64 (r.num : Int), .string (str r.word), .int .i64 (r.a : Int), .int .i64 (r.b : Int), .int .i64 (r.c : Int)] rfl rfl (seven_new0 _ _ (by simp) _ _ _ _ _ _ _ _) (by simp [Value.oneCell']) (by decide) (by have := HSM.out; unfold maxLen; omega) (by have := HSM.out; omega) (by have := K2.out.size.2; have := K2.out.size.1; simp only [World.size_alloc]; omega) _ rfl ?_); intro g1 cap1 w4 hown1 hgrow1 hat1 hlt1)
          go_roundw
          case rel => exact ⟨k + 1, k + 1, k + 1, by omega, by go_num, by go_num, by go_num, Lib.hid ⟨_, _, ⟨st.out ++ [(r, st.wait)], [], k + 1, k + 1⟩, [], ⟨SN2.out.trans es.out, SR2.out, K3.out.put (r := r) hown1 hgrow1 (k + 1) (k + 1)⟩, rfl, rfl⟩⟩
          case measure => simp [intOf]; omega
      · have q : (z != 10) = true := by simpa using h10
        have hx10 : ¬ x = 10 := fun e => h10 (by rw [← hz, e]; rfl)
        rw [if_neg hx10] at SN SR
        have NX : Hid (∃ B cs st cur, Rr w l (k + 1) wr B u4 u5 cs st cur ∧ st.at_ = a ∧ st.end_ = b) := Lib.hid ⟨B, cs, st, cur ++ [x], ⟨SN, SR, RR.out.i⟩, HA.out, HBB.out⟩
        clear SN SR hx10 hx htk hcell c0 hz h10
        go_wp2
        go_roundw
        case rel => exact ⟨k + 1, a, b, by omega, by go_num, rfl, rfl, NX⟩
        case measure => simp [intOf]; omega
    · have hkn : k = Ln := by omega
      subst hkn
      have htk : l.take k = l := List.take_of_length_le (by rw [HLn.out]; exact Nat.le_refl _)
      have EN := RR.out.st_
      rw [htk] at EN
      have EN2 := Lib.hid EN
      obtain ⟨Ao, co, hvo, hc1, hc2, hsl⟩ := own_slt RR.out.i.oo
      subst hvo
      have C2 := Lib.hid (And.intro hc1 hc2)
      have S2 := Lib.hid hsl
      clear hc1 hc2 hsl htk EN
      go_wp2
      go_ret2
      unfold RepPost
      rw [EN2.out]
      refine ⟨Ao, co, cs, ?_, C2.out.1, C2.out.2, S2.out.slp, RR.out.i.rc.weak (fun k hk => hk.1), RR.out.i.fr⟩
      rw [HBB.out, HLn.out]
      rfl

end Go.Proofs.YtoockgijliacdaaDoor
