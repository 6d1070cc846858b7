/- The law AuditJoins, walked. -/
import Derived.Test.YtoockgijliacdaaDoorAla
import Derived.Lib.ConvBytes
import Derived.Laws.AppendOwnNone
namespace Go.Proofs.YtoockgijliacdaaDoor
open Go.RowKit

theorem RC.append {S : Nat → Prop} {w : World} {r1 r2 : List (Rpl × List (List UInt8))} {c1 c2 : List Value} (h1 : RC S w r1 c1) (h2 : RC S w r2 c2) : RC S w (r1 ++ r2) (c1 ++ c2) := by
  induction r1 generalizing c1 with
  | nil => unfold RC at h1; subst h1; exact h2
  | cons x t ih =>
    obtain ⟨r, ls⟩ := x
    unfold RC at h1
    obtain ⟨A, c, rest, rfl, a1, a2, a3, a4⟩ := h1
    exact ⟨A, c, rest ++ c2, by simp, a1, a2, a3, ih a4⟩
theorem bytesWorld_fr (w : World) (e : TypeId) (s : ByteArray) : Fr No w (Lib.bytesWorld w e s) := by
  refine ⟨?_, ?_, ?_, by rw [Lib.bytesWorld_size]; omega, fun k hk _ => Lib.bytesWorld_at_old w e s k hk⟩
  · unfold Lib.bytesWorld World.freeze; split <;> rfl
  · unfold Lib.bytesWorld World.freeze; split <;> rfl
  · unfold Lib.bytesWorld World.freeze; split <;> rfl
theorem bytesWorld_sl (w : World) (e : TypeId) (l : List UInt8) : SlP (fun k => k < (Lib.bytesWorld w e (str l)).heap.size) (Lib.bytesWorld w e (str l)) (some ⟨w.heap.size, 0, none⟩) (l.map bval) := fun _ =>
  ⟨w.heap.size, 0, rfl, by rw [Lib.bytesWorld_size]; omega, fun j u hu => by
    have hj : j < l.length := by
      have := (List.getElem?_eq_some_iff.1 hu).1
      simpa using this
    rw [Nat.zero_add, Lib.bytesWorld_cell w e (str l) j (by rw [str_size]; exact hj), str_data]
    rw [List.getElem?_map, List.getElem?_eq_getElem hj] at hu
    simp at hu
    subst hu
    simp [bval, List.getD, hj]⟩
theorem SlP.lt {S : Nat → Prop} {w : World} {A : Option Addr} {xs : List Value} (h : SlP S w A xs) : SlP (fun k => S k ∧ k < w.heap.size) w A xs := fun hn => by
  obtain ⟨b, o, e, hs, hc⟩ := h hn
  refine ⟨b, o, e, ⟨hs, ?_⟩, hc⟩
  obtain ⟨x, hx⟩ : ∃ x, xs[0]? = some x := by cases xs with | nil => exact absurd rfl hn | cons x _ => exact ⟨x, rfl⟩
  exact block_lt_of_cell (hc 0 x hx)

/-- An operation whose guard is met. -/
theorem wpList_met {P : Program} {ops : Array Oper} {rest : List Oper} {o : Oper} {a : Act} {w : World} {Q : Exit → Act → World → Prop} (hw : Region.wanted o (yielded ops a.tmps) = true)
    (h : ∀ K : Act → World → Prop, (∀ a w, wpList P ops Q rest a w → K a w) → o.wp P a w K Q) : wpList P ops Q (o :: rest) a w :=
  wpList_step fun K hK => by rw [if_pos hw]; exact h K hK
theorem append_none_met {P : Program} {w : World} {ops : Array Oper} {rest : List Oper} {o : Oper} {a : Act} {Q : Exit → Act → World → Prop} (hw : Region.wanted o (yielded ops a.tmps) = true) (s x : Operand) (t : TypeId)
    (ho : o.op = .call { callee := .builtin .append, args := #[s, x], argTypes := #[t, t] })
    (base : Nat) (e : TypeId) (i : TypeInfo) (size : Nat) (ht : P.underlying t = some (.slice e)) (hi : P.info? e = some i)
    (v : Value) (n : Nat) (xs : List Value) (hs : a.eval s = v) (hown : w.ownsRow base e size v n xs) (hx : a.eval x = .slice none 0 0)
    (h : wpList P ops Q rest (a.put o.dst v) w) : wpList P ops Q (o :: rest) a w := by
  refine wpList_met hw fun K hK => ?_
  have hrun := run_append_owned_none (P := P) (w := w) base t o.type e i size ht hi v n xs hown
  unfold Oper.wp
  simp [execOp, ho, resolve, invoke, builtin, hs, hx, hrun, Result.andThen]
  exact hK _ _ h

theorem rc_one {S : Nat → Prop} {w : World} {rs : List (Rpl × List (List UInt8))} {cs : List Value} (h : RC S w rs cs) : ∀ u ∈ cs, u.oneCell' = true := by
  induction rs generalizing cs with
  | nil => unfold RC at h; subst h; intro u hu; cases hu
  | cons x t ih =>
    obtain ⟨r, ls⟩ := x
    unfold RC at h
    obtain ⟨A, c, rest, rfl, _, _, _, h4⟩ := h
    intro u hu
    rcases List.mem_append.1 hu with hu | hu
    · simp [rplCells] at hu
      rcases hu with rfl | rfl | rfl | rfl | rfl | rfl | rfl <;> rfl
    · exact ih h4 u hu

set_option maxRecDepth 100000 in
set_option maxHeartbeats 1000000 in
theorem lawJoins_any (w : World) (A B : Option Addr) (ca cb : Nat) (a b : List UInt8) (hca : a.length ≤ ca) (hma : ca ≤ 9223372036854775807) (hsa : SlP (fun k => k < w.heap.size) w A (a.map bval))
    (hcb : b.length ≤ cb) (hmb : cb ≤ 9223372036854775807) (hsb : SlP (fun k => k < w.heap.size) w B (b.map bval)) (hd : Digs w) (hml : ML w) :
    Calls Tryd.prog 8 #[.slice A a.length ca, .slice B b.length cb] w fun e w' => e = .returned (.bool true) ∧ Fr No w w' := by
  have HD := Lib.hid hd
  have HM := Lib.hid hml
  have HSA := Lib.hid hsa
  have HSB := Lib.hid hsb
  have HCA := Lib.hid (And.intro hca hma)
  have HCB := Lib.hid (And.intro hcb hmb)
  clear hd hml hsa hsb hca hma hcb hmb
  by_cases hla : a.length ≤ 3000 ∧ b.length ≤ 3000
  · have q1 : decide ((3000 : Int) < (a.length : Int)) = false := decide_eq_false (by omega)
    have q2 : decide ((3000 : Int) < (b.length : Int)) = false := decide_eq_false (by omega)
    have HL := Lib.hid hla
    clear hla
    go_enter Tryd.func8, Tryd.ntmps8
    go_wp2_with fail
    refine (replies_any _ A ca a (by have := HL.out; omega) HCA.out.1 HCA.out.2 HSA.out HD.out HM.out).mono ?_
    rintro e w1 ⟨A1, c1, cs1, rfl, h1, h2, s1, r1, f1⟩
    have F1 := Lib.hid f1
    have S1 := Lib.hid s1
    have R1 := Lib.hid r1
    clear f1 s1 r1 h1 h2
    go_wp2_with fail
    refine (replies_any _ B cb b (by have := HL.out; omega) HCB.out.1 HCB.out.2 ((HSB.out.keep F1.out (fun _ _ => id)).mono (fun k hk => Nat.lt_of_lt_of_le hk F1.out.size)) (HD.out.keep F1.out) (HM.out.keep F1.out id)).mono ?_
    rintro e w2 ⟨A2, c2, cs2, rfl, h1, h2, s2, r2, f2⟩
    have F2 := Lib.hid (F1.out.trans f2)
    have S1' := Lib.hid (S1.out.keep f2 (fun _ _ => id))
    have R1' := Lib.hid (R1.out.map (S' := fun k => w.heap.size ≤ k) (w' := w2) (fun _ _ s => s.keep f2 (fun _ _ => id)))
    have S2 := Lib.hid s2
    have R2 := Lib.hid (r2.weak (S' := fun k => w.heap.size ≤ k) (fun k hk => Nat.le_trans F1.out.size hk))
    have JN := Lib.hid (audS_join a b)
    have EN := Lib.hid (audS_end a)
    have OA : Hid ((audS a).out.length ≤ 3000) := Lib.hid (by have := audS_outs a; have := HL.out; omega)
    have OB : Hid ((audS b).out.length ≤ 3000) := Lib.hid (by have := audS_outs b; have := HL.out; omega)
    have LAB : Hid (∀ y ∈ (audS (a ++ b)).out, y.2.length ≤ 6000) := Lib.hid (fun y hy => by have := audS_lines (a ++ b) y hy; have := HL.out; simp at *; omega)
    clear f2 s2 r2 h1 h2 S1 R1
    obtain ⟨ea, hea⟩ : ∃ ea, (audS a).end_ = ea := ⟨_, rfl⟩
    obtain ⟨eb, heb⟩ : ∃ eb, (audS b).end_ = eb := ⟨_, rfl⟩
    rw [hea] at JN EN ⊢
    rw [heb] at JN ⊢
    clear hea heb
    by_cases hz : ea = a.length
    · have J := JN.out hz
      have q3 : (((a.length : Int) - (ea : Int)) != 0) = false := by simp; omega
      have cv1 : (convert 39 9 (.slice A a.length ca)).run Tryd.prog w2 = .ok (.string (str a)) w2 := run_b2s (HSA.out.keep F2.out (fun _ _ => id)).sl ca
      have cv2 : (convert 39 9 (.slice B b.length cb)).run Tryd.prog w2 = .ok (.string (str b)) w2 := run_b2s (HSB.out.keep F2.out (fun _ _ => id)).sl cb
      have cv3 := Lib.run_convert_string_bytes (P := Tryd.prog) w2 9 39 5 (str (a ++ b)) Tryd.underlying9 Tryd.underlying39 Tryd.underlying5
      have hap := str_append a b
      have z1 : (str a).size ≤ 3000 := by rw [str_size]; exact HL.out.1
      have z2 : (str b).size ≤ 3000 := by rw [str_size]; exact HL.out.2
      have hsz : (str (a ++ b)).size = (a ++ b).length := str_size _
      have F3 := Lib.hid (F2.out.trans (bytesWorld_fr w2 5 (str (a ++ b))))
      have SL3 := Lib.hid (bytesWorld_sl w2 5 (a ++ b))
      have B3 := Lib.hid (bytesWorld_fr w2 5 (str (a ++ b)))
      obtain ⟨cap, hcap⟩ : ∃ cap, grownCap w2 (str (a ++ b)).size 0 5 = cap := ⟨_, rfl⟩
      have HCAP : Hid ((a ++ b).length ≤ cap ∧ cap ≤ 9223372036854775807) := Lib.hid (by
        have g1 := grownCap_ge w2 (str (a ++ b)).size 0 5
        have g2 := grownCap_le_maxLen w2 (str (a ++ b)).size 0 5 (by rw [hsz]; have := HL.out; unfold maxLen; simp; omega)
        rw [hcap, hsz] at g1
        rw [hcap] at g2
        unfold maxLen at g2
        exact ⟨g1, by omega⟩)
      rw [hcap] at cv3
      obtain ⟨W3, hW3⟩ : ∃ W3, Lib.bytesWorld w2 5 (str (a ++ b)) = W3 := ⟨_, rfl⟩
      rw [hW3] at cv3 F3 SL3 B3
      rw [hsz] at cv3
      have S1'' := Lib.hid (S1'.out.keep B3.out (fun _ _ => id))
      have R1'' := Lib.hid (R1'.out.map (S' := fun k => w.heap.size ≤ k) (w' := W3) (fun _ _ s => s.keep B3.out (fun _ _ => id)))
      have S2'' := Lib.hid (S2.out.keep B3.out (fun _ _ => id))
      have R2'' := Lib.hid (R2.out.map (S' := fun k => w.heap.size ≤ k) (w' := W3) (fun _ _ s => s.keep B3.out (fun _ _ => id)))
      have HJ := Lib.hid J
      clear J hcap hW3 hsz S1' R1' S2 R2
      go_wp2_with fail
      have RZ := replies_any W3 (some ⟨w2.heap.size, 0, none⟩) cap (a ++ b) (by have := HL.out; simp; omega) HCAP.out.1 HCAP.out.2 SL3.out (HD.out.keep F3.out) (HM.out.keep F3.out id)
      rw [List.length_append] at RZ
      refine RZ.mono ?_
      clear RZ cv1 cv2 cv3 hap z1 z2
      rintro e w4 ⟨A4, c4, cs4, rfl, h1, h2, s4, r4, f4⟩
      rw [HJ.out.1] at r4 ⊢
      obtain ⟨M, hM⟩ : ∃ M : Int, (b.length : Int) - (eb : Int) = M := ⟨_, rfl⟩
      have hM2 : (((a ++ b).length : Nat) : Int) - ((audS (a ++ b)).end_ : Int) = M := by rw [HJ.out.2, List.length_append, ← hM]; omega
      rw [hM2, hM]
      have LAB2 : Hid (∀ y ∈ (audS a).out ++ (audS b).out, y.2.length ≤ 6000) := Lib.hid (by rw [← HJ.out.1]; exact LAB.out)
      have F4 := Lib.hid (F3.out.trans f4)
      have S4 := Lib.hid s4
      have R4 := Lib.hid r4
      have U1 := Lib.hid (S1''.out.keep f4 (fun _ _ => id))
      have V1 := Lib.hid (R1''.out.map (S' := fun k => w.heap.size ≤ k) (w' := w4) (fun _ _ s => s.keep f4 (fun _ _ => id)))
      have U2 := Lib.hid (S2''.out.keep f4 (fun _ _ => id))
      have V2 := Lib.hid (R2''.out.map (S' := fun k => w.heap.size ≤ k) (w' := w4) (fun _ _ s => s.keep f4 (fun _ _ => id)))
      clear h1 h2 s4 r4 f4 hM hM2 LAB JN S1'' R1'' S2'' R2'' HJ B3
      obtain ⟨xs, hxs⟩ : ∃ xs, (audS a).out = xs := ⟨_, rfl⟩
      obtain ⟨ys, hys⟩ : ∃ ys, (audS b).out = ys := ⟨_, rfl⟩
      rw [hxs] at OA LAB2 R4 V1 ⊢
      rw [hys] at OB LAB2 R4 V2 ⊢
      clear hxs hys
      go_wp2_with fail
      have CZ := conv_any _ A4 c4 (xs ++ ys) cs4 S4.out R4.out (by have := OA.out; have := OB.out; simp; omega)
      rw [List.length_append] at CZ
      refine CZ.mono ?_
      clear CZ
      rintro e w5 ⟨v5, rfl, o5, r5, f5, -⟩
      obtain ⟨A5, c5, rfl, -, -, s5⟩ := own_slp o5
      have F5 := Lib.hid (F4.out.trans f5)
      have S5 := Lib.hid s5.lt
      have R5 := Lib.hid r5
      have U1' := Lib.hid (U1.out.keep f5 (fun _ _ => id))
      have V1' := Lib.hid (V1.out.map (S' := fun k => w.heap.size ≤ k) (w' := w5) (fun _ _ s => s.keep f5 (fun _ _ => id)))
      have U2' := Lib.hid (U2.out.keep f5 (fun _ _ => id))
      have V2' := Lib.hid (V2.out.map (S' := fun k => w.heap.size ≤ k) (w' := w5) (fun _ _ s => s.keep f5 (fun _ _ => id)))
      clear o5 s5 r5 f5 S4 R4 U1 V1 U2 V2
      go_wp2_with fail
      refine (conv_any _ A1 c1 xs cs1 U1'.out V1'.out (by have := OA.out; omega)).mono ?_
      rintro e w6 ⟨v6, rfl, o6, r6, f6, -⟩
      have F6 := Lib.hid (F5.out.trans f6)
      have Z6 := Lib.hid f6.size
      have O6 := Lib.hid o6
      have R6 := Lib.hid r6
      have S5' := Lib.hid (S5.out.keep f6 (fun _ _ => id))
      have R5' := Lib.hid (R5.out.map (w' := w6) (S' := fun _ => True) (fun _ _ s => (s.keep f6 (fun _ _ => id)).mono (fun _ _ => trivial)))
      have U2'' := Lib.hid (U2'.out.keep f6 (fun _ _ => id))
      have V2'' := Lib.hid (V2'.out.map (S' := fun k => w.heap.size ≤ k) (w' := w6) (fun _ _ s => s.keep f6 (fun _ _ => id)))
      clear o6 r6 f6 S5 R5 U1' V1' U2' V2'
      go_wp2_with fail
      refine (conv_any _ A2 c2 ys cs2 U2''.out V2''.out (by have := OB.out; omega)).mono ?_
      rintro e w7 ⟨v7, rfl, o7, r7, f7, n7⟩
      have F7 := Lib.hid (F6.out.trans f7)
      have Z7 := Lib.hid (Nat.le_trans Z6.out f7.size)
      have O6' := Lib.hid (own_keep O6.out f7)
      have R6' := Lib.hid (R6.out.map (S' := fun _ => True) (w' := w7) (fun _ _ s => (s.keep f7 (fun _ _ => id)).mono (fun _ _ => trivial)))
      have S5'' := Lib.hid (S5'.out.keep f7 (fun _ _ => id))
      have R5'' := Lib.hid (R5'.out.map (w' := w7) (S' := fun _ => True) (fun _ _ s => s.keep f7 (fun _ _ => id)))
      have R7 := Lib.hid (r7.weak (S' := fun _ => True) (fun _ _ => trivial))
      have O7 := Lib.hid o7
      have N7 := Lib.hid n7
      clear o7 r7 f7 n7 U2'' V2'' O6 R6 S5' R5'
      obtain ⟨i0, hi, hz0, hz1, hz2⟩ := info_parts infoRf
      have HSAME : Hid (∀ (W : World) (A9 : Option Addr) (c9 : Nat) (cs9 : List Value), SlP (fun _ => True) W A5 cs4 → RC (fun _ => True) W (xs ++ ys) cs4 → SlP (fun _ => True) W A9 cs9 → RC (fun _ => True) W (xs ++ ys) cs9 →
          Calls Tryd.prog 21 #[.slice A5 (xs.length + ys.length) c5, .slice A9 (xs.length + ys.length) c9] W fun e w' => e = .returned (.bool true) ∧ Drawn W w') := Lib.hid (fun W A9 c9 cs9 a1 a2 a3 a4 => by
        have := same_true W A5 A9 c5 c9 (xs ++ ys) cs4 cs9 a1 a2 a3 a4 (by have := OA.out; have := OB.out; simp; omega) LAB2.out
        rw [List.length_append] at this
        exact this)
      by_cases h0 : ys.length = 0
      · have hv7 := N7.out h0
        subst hv7
        have hy0 : ys = [] := List.eq_nil_of_length_eq_zero h0
        subst hy0
        have O6n := Lib.hid O6'.out
        obtain ⟨A6, c6, hv6, -, -, s6⟩ := own_slp O6'.out
        subst hv6
        have S6 := Lib.hid s6
        have F8 := Lib.hid F7.out
        have R5e : Hid (RC (fun _ => True) w7 xs cs4) := Lib.hid (by simpa using R5''.out)
        have L2e : Hid (∀ y ∈ xs, y.2.length ≤ 6000) := Lib.hid (by simpa using LAB2.out)
        clear O6' N7 O7 s6 HSAME
        go_wp2_with (at_builtin; go_loud (refine append_none_met (by rfl) _ _ 43 rfl w5.heap.size 108 i0 7 Tryd.underlying43 hi _ _ _ rfl O6n.out rfl ?_))
        refine (same_true w7 A5 A6 c5 c6 xs cs4 cs1 S5''.out R5e.out S6.out R6'.out (by have := OA.out; omega) L2e.out).mono ?_
        rintro e w9 ⟨rfl, d9⟩
        have F9 := Lib.hid (F8.out.trans (d9.fr No))
        clear d9
        go_wp2_with fail
        refine (awake_see _ (HD.out.keep F9.out) (HM.out.keep F9.out id)).mono ?_
        rintro e w10 ⟨rfl, f10⟩
        have F10 := Lib.hid (F9.out.trans f10)
        clear f10
        go_wp2
        go_ret
        exact ⟨rfl, F10.out⟩
      · obtain ⟨g7, cap7, hv7, hcell7⟩ : ∃ g7 cap7, v7 = .slice (some ⟨g7, 0, none⟩) ys.length cap7 ∧ ∀ j u, cs2[j]? = some u → w7.cell? ((⟨g7, 0, none⟩ : Addr).add j) = some u := by
          rcases id O7.out.2 with ⟨_, h⟩ | ⟨g, cap, cur, hv, hb, hg, hc, hm, _⟩
          · exact absurd h h0
          · exact ⟨g, cap, hv, O7.out.cells (by rw [hv]; rfl)⟩
        subst hv7
        have H7 := Lib.hid hcell7
        have L7 : Hid (cs2.length = ys.length * 7) := Lib.hid O7.out.1
        have ONE : Hid (∀ u ∈ cs2, u.oneCell' = true) := Lib.hid (rc_one R7.out)
        have h0' : 0 < ys.length := by omega
        clear hcell7 N7
        go_wp2_with (at_builtin; go_loud (refine wpList_met (by rfl) fun K hK => wp_append_lies _ _ _ 43 rfl w5.heap.size 108 i0 (.agg #[.int .i64 0, .slice none 0 0, .int .i64 0, .string { data := #[] }, .int .i64 0, .int .i64 0, .int .i64 0]) 7 80 Tryd.underlying43 hi hz0 hz1 hz2 rfl (by decide) _ _ _ rfl O6'.out ⟨g7, 0, none⟩ ys.length cap7 cs2 rfl L7.out H7.out ONE.out h0' (by have := OA.out; have := OB.out; unfold maxLen; omega) (by have := OA.out; have := OB.out; omega) (by have := Z7.out; exact this) _ rfl fun g1 cap1 w8 hown1 hgrow1 hat1 hlt1 => hK _ _ ?_))
        have FG : Fr (fun k => w5.heap.size ≤ k) w7 w8 := (Fr.of_grown hgrow1).mono fun k hk => (O6'.out.lt k hk.symm).1
        have F8 := Lib.hid (F7.out.then_ FG (fun i hi e => by have := Z7.out; have := F5.out.size; omega))
        obtain ⟨A8, c8, hv8, -, -, s8⟩ := own_slp hown1
        injection hv8 with ea _ ec
        subst ea ec
        have T5 : SlP (fun _ => True) w8 A5 cs4 := (S5''.out.keep FG (fun k hk e => by omega)).mono (fun _ _ => trivial)
        have T5r : RC (fun _ => True) w8 (xs ++ ys) cs4 := R5''.out.map (fun _ _ s => s.grown O6'.out ne_rf.1 hgrow1)
        have T6r : RC (fun _ => True) w8 xs cs1 := R6'.out.map (fun _ _ s => s.grown O6'.out ne_rf.1 hgrow1)
        have T7r : RC (fun _ => True) w8 ys cs2 := R7.out.map (fun _ _ s => s.grown O6'.out ne_rf.1 hgrow1)
        refine (HSAME.out w8 (some ⟨g1, 0, none⟩) cap1 (cs1 ++ cs2) T5 T5r (s8.mono (fun _ _ => trivial)) (T6r.append T7r)).mono ?_
        clear T5 T5r T6r T7r s8 FG hown1 hgrow1 hat1
        rintro e w9 ⟨rfl, d9⟩
        have F9 := Lib.hid (F8.out.trans (d9.fr No))
        clear d9
        go_wp2_with fail
        refine (awake_see _ (HD.out.keep F9.out) (HM.out.keep F9.out id)).mono ?_
        rintro e w10 ⟨rfl, f10⟩
        have F10 := Lib.hid (F9.out.trans f10)
        clear f10
        go_wp2
        go_ret
        exact ⟨rfl, F10.out⟩
    · have hlt : ea ≤ a.length := EN.out
      obtain ⟨D, hD⟩ : ∃ D : Int, (a.length : Int) - (ea : Int) = D := ⟨_, rfl⟩
      have q3 : (D != 0) = true := by simp; omega
      have q4 : 0 < D := by omega
      have q5 : D ≤ (a.length : Int) := by omega
      rw [hD]
      clear hz hlt hD
      go_wp2_with fail
      refine (awake_see _ (HD.out.keep F2.out) (HM.out.keep F2.out id)).mono ?_
      rintro e w5 ⟨rfl, f5⟩
      have F5 := Lib.hid (F2.out.trans f5)
      clear f5
      go_wp2
      go_ret
      exact ⟨rfl, F5.out⟩
  · have q : (decide ((3000 : Int) < (a.length : Int)) = true) ∨ (decide ((3000 : Int) < (a.length : Int)) = false ∧ decide ((3000 : Int) < (b.length : Int)) = true) := by
      by_cases h : (3000 : Int) < (a.length : Int)
      · exact .inl (decide_eq_true h)
      · exact .inr ⟨decide_eq_false h, decide_eq_true (by omega)⟩
    clear hla
    rcases q with q1 | ⟨q1, q2⟩
    all_goals go_enter Tryd.func8, Tryd.ntmps8
    all_goals go_wp2_with fail
    all_goals refine (awake_see _ HD.out HM.out).mono ?_
    all_goals rintro e w5 ⟨rfl, f5⟩
    all_goals have F5 := Lib.hid f5
    all_goals clear f5
    all_goals go_wp2
    all_goals go_ret
    all_goals exact ⟨rfl, F5.out⟩

end Go.Proofs.YtoockgijliacdaaDoor
