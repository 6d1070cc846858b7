/- Replies in memory. -/
import Derived.Test.YtoockgijliacdaaDoorAen
namespace Go.Proofs.YtoockgijliacdaaDoor
open Go.RowKit

theorem infoStr : (Tryd.prog.info? 9).map (fun i => (i.zero, i.size, i.bytes)) = some (some (.string ByteArray.empty), 1, 16) := by kernel_rfl
theorem infoRp : (Tryd.prog.info? 86).map (fun i => (i.zero, i.size, i.bytes)) = some (some (.agg #[.int .i64 0, .slice none 0 0, .int .i64 0, .string { data := #[] }, .int .i64 0, .int .i64 0, .int .i64 0]), 7, 80) := by kernel_rfl

def strV (l : List UInt8) : Value := .string (str l)
/-- The cells xs lie at A, in an array of elements t, in a block of S. -/
def SlT (t : TypeId) (S : Nat → Prop) (w : World) (A : Option Addr) (xs : List Value) : Prop :=
  xs ≠ [] → ∃ b o cs fr, A = some ⟨b, o, none⟩ ∧ S b ∧ w.heap[b]? = some (.cells cs t fr) ∧ ∀ j u, xs[j]? = some u → w.cell? ⟨b, o + j, none⟩ = some u
theorem SlT.slp {t : TypeId} {S : Nat → Prop} {w : World} {A : Option Addr} {xs : List Value} (h : SlT t S w A xs) : SlP S w A xs := fun hn => by
  obtain ⟨b, o, cs, fr, e, hs, _, hc⟩ := h hn
  exact ⟨b, o, e, hs, hc⟩
theorem SlT.mono {t : TypeId} {S S' : Nat → Prop} {w : World} {A : Option Addr} {xs : List Value} (h : SlT t S w A xs) (hs : ∀ k, S k → S' k) : SlT t S' w A xs := fun hn => let ⟨b, o, cs, fr, e, hb, hh, hc⟩ := h hn; ⟨b, o, cs, fr, e, hs _ hb, hh, hc⟩
theorem SlT.turn {t : TypeId} {S : Nat → Prop} {w w1 : World} {A : Option Addr} {xs : List Value} (h : SlT t S w A xs) (hk : ∀ b cs fr, S b → w.heap[b]? = some (.cells cs t fr) → w1.heap[b]? = w.heap[b]?) : SlT t S w1 A xs := fun hn => by
  obtain ⟨b, o, cs, fr, e, hb, hh, hc⟩ := h hn
  have k := hk b cs fr hb hh
  exact ⟨b, o, cs, fr, e, hb, k.trans hh, fun j u hu => (World.cell?_of_block (w := w) k).trans (hc j u hu)⟩
theorem lt_of_heap {w : World} {b : Nat} {o : Obj} (h : w.heap[b]? = some o) : b < w.heap.size := (Array.getElem?_eq_some_iff.1 h).1
theorem SlT.keep {t : TypeId} {S R : Nat → Prop} {w w1 : World} {A : Option Addr} {xs : List Value} (h : SlT t S w A xs) (hf : Fr R w w1) (hn : ∀ k, S k → ¬ R k) : SlT t S w1 A xs :=
  h.turn fun b _ _ hb hh => hf.block b (lt_of_heap hh) (hn b hb)
theorem SlT.lt {t : TypeId} {S : Nat → Prop} {w : World} {A : Option Addr} {xs : List Value} (h : SlT t S w A xs) : SlT t (fun k => S k ∧ k < w.heap.size) w A xs := fun hn => by
  obtain ⟨b, o, cs, fr, e, hb, hh, hc⟩ := h hn
  exact ⟨b, o, cs, fr, e, ⟨hb, lt_of_heap hh⟩, hh, hc⟩
theorem own_slt {w : World} {B : Nat} {e : TypeId} {n k : Nat} {v : Value} {xs : List Value} (h : w.ownsRow B e k v n xs) : ∃ A c, v = .slice A n c ∧ n ≤ c ∧ c ≤ 9223372036854775807 ∧ SlT e (fun k => B ≤ k) w A xs := by
  rcases id h.2 with ⟨hv, h0⟩ | ⟨g, cap, cur, hv, hb, hg, hc, hm, _⟩
  · subst h0
    have : xs = [] := List.eq_nil_of_length_eq_zero (by simpa using h.1)
    subst this
    exact ⟨none, 0, hv, Nat.le_refl _, by omega, fun h => absurd rfl h⟩
  · unfold maxLen at hm
    refine ⟨some ⟨g, 0, none⟩, cap, hv, hc, by omega, fun _ => ⟨g, 0, _, _, rfl, hb, hg, fun j u hu => ?_⟩⟩
    have := h.cells (g := g) (by rw [hv]; rfl) j u hu
    have e : (⟨g, 0, none⟩ : Addr).add j = ⟨g, 0 + j, none⟩ := by unfold Addr.add; split <;> simp_all
    rw [e] at this
    exact this
theorem SlT.grown {t e : TypeId} {S : Nat → Prop} {w w1 : World} {A : Option Addr} {xs : List Value} (h : SlT t S w A xs) {B n size : Nat} {v : Value} {ys : List Value} (ho : w.ownsRow B e size v n ys) (hne : e ≠ t) (hg : w.grownBy w1 v.ownBlock) : SlT t S w1 A xs :=
  h.turn fun b cs fr _ hh => hg.block b (lt_of_heap hh) (fun eb => by
    rcases ho.2 with ⟨rfl, _⟩ | ⟨g, cap, cur, rfl, _, hgb, _⟩
    · simp [Value.ownBlock] at eb
    · obtain rfl : b = g := by simpa [Value.ownBlock] using eb
      rw [hgb] at hh
      injection hh with hh
      injection hh with _ ht
      exact hne ht)

/-- The cells of replies; their lines lie in blocks of S. -/
def RC (S : Nat → Prop) (w : World) : List (Rpl × List (List UInt8)) → List Value → Prop
  | [], cs => cs = []
  | (r, ls) :: t, cs => ∃ A c rest, cs = rplCells r (.slice A ls.length c) ++ rest ∧ ls.length ≤ c ∧ c ≤ 9223372036854775807 ∧ SlT 9 S w A (ls.map strV) ∧ RC S w t rest
theorem RC.len {S : Nat → Prop} {w : World} {l : List (Rpl × List (List UInt8))} {cs : List Value} (h : RC S w l cs) : cs.length = 7 * l.length := by
  induction l generalizing cs with
  | nil => unfold RC at h; subst h; rfl
  | cons x t ih =>
    obtain ⟨r, ls⟩ := x
    unfold RC at h
    obtain ⟨A, c, rest, rfl, _, _, _, h4⟩ := h
    have := ih h4
    simp [rplCells, this]; omega
theorem RC.snoc {S : Nat → Prop} {w : World} {l : List (Rpl × List (List UInt8))} {cs : List Value} {r : Rpl} {ls : List (List UInt8)} {A : Option Addr} {c : Nat}
    (h : RC S w l cs) (h1 : ls.length ≤ c) (h2 : c ≤ 9223372036854775807) (h3 : SlT 9 S w A (ls.map strV)) : RC S w (l ++ [(r, ls)]) (cs ++ rplCells r (.slice A ls.length c)) := by
  induction l generalizing cs with
  | nil =>
    unfold RC at h; subst h
    exact ⟨A, c, [], by simp, h1, h2, h3, rfl⟩
  | cons x t ih =>
    obtain ⟨r', ls'⟩ := x
    unfold RC at h
    obtain ⟨A', c', rest, rfl, g1, g2, g3, g4⟩ := h
    exact ⟨A', c', rest ++ rplCells r (.slice A ls.length c), by simp, g1, g2, g3, ih g4⟩
theorem RC.map {S S' : Nat → Prop} {w w' : World} (hm : ∀ A xs, SlT 9 S w A xs → SlT 9 S' w' A xs) {l : List (Rpl × List (List UInt8))} {cs : List Value} (h : RC S w l cs) : RC S' w' l cs := by
  induction l generalizing cs with
  | nil => exact h
  | cons x t ih =>
    obtain ⟨r, ls⟩ := x
    unfold RC at h
    obtain ⟨A, c, rest, rfl, g1, g2, g3, g4⟩ := h
    exact ⟨A, c, rest, rfl, g1, g2, hm _ _ g3, ih g4⟩

/-- Whatever is cells lies as it lay. -/
def CK (W W' : World) : Prop := ∀ (k : Nat) (o : Obj), W.heap[k]? = some o → o.isCells = true → W'.heap[k]? = some o
theorem CK.of {B : Nat} {W W' : World} {row : Option Nat} (hg : W.grownBy W' row) (hr : ∀ r, row = some r → B ≤ r ∧ ∃ o : Obj, W.heap[r]? = some o ∧ o.isCells = false) : CK W W' := fun k o hk hc => by
  refine (hg.block k (Array.getElem?_eq_some_iff.1 hk).1 (fun e => ?_)).trans hk
  obtain ⟨_, o', ho, hn⟩ := hr k e.symm
  rw [hk] at ho; cases ho; rw [hc] at hn; cases hn
theorem Blk.ck {W W' : World} {g : Nat} {t : TypeId} {cs : Array Value} (h : Blk W g t cs) (k : CK W W') : Blk W' g t cs := k g _ h rfl
theorem cell_obj {W : World} {a : Addr} {v : Value} (h : W.cell? a = some v) : ∃ o : Obj, W.heap[a.block]? = some o ∧ o.isCells = true := cells_of_cell h
theorem SlT.ck {t : TypeId} {S : Nat → Prop} {W W' : World} {A : Option Addr} {xs : List Value} (h : SlT t S W A xs) (k : CK W W') : SlT t S W' A xs :=
  h.turn fun b cs fr _ hh => (k b _ hh rfl).trans hh.symm
theorem own_ck {W W' : World} {B : Nat} {e : TypeId} {size n : Nat} {v : Value} {xs : List Value} (h : W.ownsRow B e size v n xs) (k : CK W W') : W'.ownsRow B e size v n xs := by
  obtain ⟨h1, h2⟩ := h
  refine ⟨h1, ?_⟩
  rcases h2 with h2 | ⟨g, cap, cur, hv, hb, hg, h3⟩
  · exact .inl h2
  · exact .inr ⟨g, cap, cur, hv, hb, k _ _ hg rfl, h3⟩
theorem own_base {W : World} {B B' : Nat} {e : TypeId} {size n : Nat} {v : Value} {xs : List Value} (h : W.ownsRow B e size v n xs) (hb : B' ≤ B) : W.ownsRow B' e size v n xs := by
  obtain ⟨h1, h2⟩ := h
  refine ⟨h1, ?_⟩
  rcases h2 with h2 | ⟨g, cap, cur, hv, hb', hg, h3⟩
  · exact .inl h2
  · exact .inr ⟨g, cap, cur, hv, Nat.le_trans hb hb', hg, h3⟩

/-- What the call of Replies has at hand behind some lines. -/
structure AuI (w : World) (st : Aus) (W : World) (B : Nat) (vo vw : Value) (cs : List Value) : Prop where
  fr : Fr No w W
  size : w.heap.size + 5 ≤ B ∧ B ≤ W.heap.size
  bo : Blk W w.heap.size 40 #[vo]
  bw : Blk W (w.heap.size + 1) 83 #[vw]
  ba : Blk W (w.heap.size + 2) 3 #[.int .i64 (st.at_ : Int)]
  be : Blk W (w.heap.size + 3) 3 #[.int .i64 (st.end_ : Int)]
  oo : W.ownsRow (w.heap.size + 5) 86 7 vo st.out.length cs
  rc : RC (fun k => w.heap.size + 5 ≤ k ∧ k < B) W st.out cs
  ow : W.ownsRow B 9 1 vw st.wait.length (st.wait.map strV)
theorem AuI.ck {w : World} {st : Aus} {W W' : World} {B : Nat} {vo vw : Value} {cs : List Value} (h : AuI w st W B vo vw cs) (k : CK W W') (F : Fr No w W') (hs : W.heap.size ≤ W'.heap.size) : AuI w st W' B vo vw cs :=
  ⟨F, ⟨h.size.1, Nat.le_trans h.size.2 hs⟩, h.bo.ck k, h.bw.ck k, h.ba.ck k, h.be.ck k, own_ck h.oo k, h.rc.map (fun _ _ h => h.ck k), own_ck h.ow k⟩
def AuJ (w : World) (pre : List (List UInt8)) (W : World) : Prop := ∃ B vo vw cs, AuI w (aus0.run pre) W B vo vw cs
theorem AuJ.own (w : World) (B0 : Nat) (hB : w.heap.size ≤ B0) : OwnFrom B0 (AuJ w) := by
  rintro pre W W' row ⟨B, vo, vw, cs, h⟩ hg hr
  have k := CK.of hg hr
  refine ⟨B, vo, vw, cs, h.ck k ?_ hg.size⟩
  exact h.fr.then_ (R' := fun k => B0 ≤ k) ⟨hg.os, hg.tape, hg.output, hg.size, fun i hi hn => hg.block i hi (fun e => hn (hr i e.symm).1)⟩ (fun i hi h => by omega)
theorem AuJ.box (w : World) (pre : List (List UInt8)) (W : World) (v : Value) (h : AuJ w pre W) : AuJ w pre (W.setCell ⟨w.heap.size + 4, 0, none⟩ v) := by
  obtain ⟨B, vo, vw, cs, h⟩ := h
  have F : Fr (fun k => k = w.heap.size + 4) W (W.setCell ⟨w.heap.size + 4, 0, none⟩ v) := (Fr.refl _ W).setCell (p := ⟨w.heap.size + 4, 0, none⟩) (fun _ => by exact (rfl : w.heap.size + 4 = w.heap.size + 4)) _
  exact ⟨B, vo, vw, cs, h.fr.then_ F (fun i hi e => by omega), ⟨h.size.1, Nat.le_trans h.size.2 F.size⟩, h.bo.keep F (by omega), h.bw.keep F (by omega), h.ba.keep F (by omega), h.be.keep F (by omega),
    own_far h.oo F (fun k hk e => by omega), h.rc.map (fun _ _ s => s.keep F (fun k hk e => by omega)), own_far h.ow F (fun k hk e => by have := h.size.1; omega)⟩

/-- What a step of the loop's body may turn. -/
structure Stp (w W W' : World) : Prop where
  fr : Fr (fun k => k ≠ w.heap.size + 4 ∧ w.heap.size ≤ k) W W'
  ko : KeepsOthers W W'
theorem Stp.refl (w W : World) : Stp w W W := ⟨Fr.refl _ _, KeepsOthers.refl _⟩
theorem Stp.trans {w A B C : World} (h : Stp w A B) (k : Stp w B C) : Stp w A C := ⟨h.fr.trans k.fr, h.ko.trans k.ko⟩
theorem Stp.set (w W : World) {b i : Nat} (h1 : b ≠ w.heap.size + 4) (h2 : w.heap.size ≤ b) (v : Value) : Stp w W (W.setCell ⟨b, i, none⟩ v) :=
  ⟨(Fr.refl _ W).setCell (p := ⟨b, i, none⟩) (fun _ => ⟨h1, h2⟩) v, KeepsOthers.setCell _ _ _⟩
theorem Stp.no {w W W' : World} (F : Fr No W W') : Stp w W W' := ⟨F.mono (fun _ h => h.elim), ⟨F.size, fun k o hk _ => (F.block k (Array.getElem?_eq_some_iff.1 hk).1 id).trans hk⟩⟩
theorem Stp.drewN {w W W' : World} (h : Stp w W W') (n : Nat) : Stp w W (W'.drewN n) := ⟨h.fr.drewN n, ⟨h.ko.size, h.ko.same⟩⟩
theorem Stp.kp {w W W' : World} (h : Stp w W W') (hz : w.heap.size + 5 ≤ W.heap.size) : Kp w.heap.size (w.heap.size + 4) W W' :=
  ⟨fun k hk => h.fr.block k (by rcases hk with hk | hk <;> omega) (by rcases hk with hk | hk <;> omega), h.fr.size⟩
theorem Stp.grown {w W W' : World} {B : Nat} {e : TypeId} {n size : Nat} {v : Value} {xs : List Value} (h : W.ownsRow B e size v n xs) (hB : w.heap.size + 5 ≤ B) (hg : W.grownBy W' v.ownBlock) : Stp w W W' := by
  refine ⟨(Fr.of_grown hg).mono fun k hk => ?_, KeepsOthers.of_grownBy hg fun j o ej hj => ?_⟩
  · have := (h.lt k hk.symm).1; omega
  · rcases h.2 with ⟨rfl, _⟩ | ⟨g, cap, cur, rfl, _, hgb, _⟩
    · simp [Value.ownBlock] at ej
    · obtain rfl : g = j := by simpa [Value.ownBlock] using ej
      rw [hgb] at hj; cases hj; rfl

theorem AuI.no {w : World} {st : Aus} {W W' : World} {B : Nat} {vo vw : Value} {cs : List Value} (h : AuI w st W B vo vw cs) (F : Fr No W W') : AuI w st W' B vo vw cs :=
  ⟨h.fr.trans F, ⟨h.size.1, Nat.le_trans h.size.2 F.size⟩, h.bo.keep F id, h.bw.keep F id, h.ba.keep F id, h.be.keep F id, own_keep h.oo F, h.rc.map (fun _ _ s => s.keep F (fun _ _ => id)), own_keep h.ow F⟩
theorem AuI.at {w : World} {st : Aus} {W : World} {B : Nat} {vo vw : Value} {cs : List Value} (h : AuI w st W B vo vw cs) (n : Nat) : AuI w { st with at_ := n } (W.setCell ⟨w.heap.size + 2, 0, none⟩ (.int .i64 (n : Int))) B vo vw cs := by
  have F : Fr (fun k => k = w.heap.size + 2) W (W.setCell ⟨w.heap.size + 2, 0, none⟩ (.int .i64 (n : Int))) := (Fr.refl _ W).setCell (p := ⟨w.heap.size + 2, 0, none⟩) (fun _ => by exact (rfl : w.heap.size + 2 = w.heap.size + 2)) _
  exact ⟨h.fr.then_ F (fun i hi e => by omega), ⟨h.size.1, Nat.le_trans h.size.2 F.size⟩, h.bo.keep F (by omega), h.bw.keep F (by omega), h.ba.set 0 _, h.be.keep F (by omega),
    own_far h.oo F (fun k hk e => by omega), h.rc.map (fun _ _ s => s.keep F (fun k hk e => by omega)), own_far h.ow F (fun k hk e => by have := h.size.1; omega)⟩
theorem ne_str : (9 : TypeId) ≠ 40 ∧ (9 : TypeId) ≠ 83 ∧ (9 : TypeId) ≠ 3 ∧ (9 : TypeId) ≠ 86 := by decide
theorem ne_rpl : (86 : TypeId) ≠ 40 ∧ (86 : TypeId) ≠ 83 ∧ (86 : TypeId) ≠ 3 ∧ (86 : TypeId) ≠ 9 := by decide
/-- A line more waits. -/
theorem AuI.wait {w : World} {st : Aus} {W w1 : World} {B : Nat} {vo vw v' : Value} {cs : List Value} {x : List UInt8} {tmp : Obj} (h : AuI w st W B vo vw cs)
    (hown : w1.ownsRow B 9 1 v' (st.wait.length + 1) (st.wait.map strV ++ [strV x])) (hg : (W.alloc tmp).grownBy w1 vw.ownBlock) :
    Blk w1 (w.heap.size + 1) 83 #[vw] ∧ AuI w { st with wait := st.wait ++ [x] } (w1.setCell ⟨w.heap.size + 1, 0, none⟩ v') B vo v' cs ∧ Stp w W (w1.setCell ⟨w.heap.size + 1, 0, none⟩ v') := by
  have h1 := h.no ((Fr.refl No W).alloc tmp)
  have bw1 := blk_grown h1.bw h1.ow ne_str.2.1 hg
  have S1 : Stp w (W.alloc tmp) w1 := Stp.grown h1.ow h1.size.1 hg
  have F1 : Fr (fun k => B ≤ k) (W.alloc tmp) w1 := (Fr.of_grown hg).mono fun k hk => (h1.ow.lt k hk.symm).1
  have F2 : Fr (fun k => k = w.heap.size + 1) w1 (w1.setCell ⟨w.heap.size + 1, 0, none⟩ v') := (Fr.refl _ w1).setCell (p := ⟨w.heap.size + 1, 0, none⟩) (fun _ => by exact (rfl : w.heap.size + 1 = w.heap.size + 1)) _
  have hz := h1.size
  refine ⟨bw1, ⟨(h1.fr.then_ F1 (fun i hi e => by omega)).then_ F2 (fun i hi e => by omega), ⟨hz.1, by have := F1.size; have := F2.size; omega⟩, (blk_grown h1.bo h1.ow ne_str.1 hg).keep F2 (by omega), bw1.set 0 _, (blk_grown h1.ba h1.ow ne_str.2.2.1 hg).keep F2 (by omega), (blk_grown h1.be h1.ow ne_str.2.2.1 hg).keep F2 (by omega), ?_, ?_, ?_⟩, ?_⟩
  · exact own_set (h1.oo.kept hg (own_ne h1.oo h1.ow ne_rpl.2.2.2)) bw1 ne_rpl.2.1 0 _
  · exact h1.rc.map (fun _ _ s => (s.keep F1 (fun k hk e => by omega)).keep F2 (fun k hk e => by omega))
  · have := own_set hown bw1 ne_str.2.1 0 v'
    simpa using this
  · exact ((Stp.no ((Fr.refl No W).alloc tmp)).trans S1).trans (Stp.set w w1 (by omega) (by omega) v')
theorem RC.weak {S S' : Nat → Prop} {w : World} (hs : ∀ k, S k → S' k) {l : List (Rpl × List (List UInt8))} {cs : List Value} (h : RC S w l cs) : RC S' w l cs := h.map (fun _ _ s => s.mono hs)
/-- What waits is taken; nothing waits. -/
theorem AuI.cut {w : World} {st : Aus} {W : World} {B : Nat} {vo vw : Value} {cs : List Value} (h : AuI w st W B vo vw cs) (n : Nat) (z : Int) (hzn : z = (n : Int)) :
    AuI w ⟨st.out, [], st.at_, n⟩ ((W.setCell ⟨w.heap.size + 1, 0, none⟩ (.slice none 0 0)).setCell ⟨w.heap.size + 3, 0, none⟩ (.int .i64 z)) W.heap.size vo (.slice none 0 0) cs ∧
    Stp w W ((W.setCell ⟨w.heap.size + 1, 0, none⟩ (.slice none 0 0)).setCell ⟨w.heap.size + 3, 0, none⟩ (.int .i64 z)) ∧
    ∃ A c, vw = .slice A st.wait.length c ∧ st.wait.length ≤ c ∧ c ≤ 9223372036854775807 ∧ SlT 9 (fun k => w.heap.size + 5 ≤ k ∧ k < W.heap.size) ((W.setCell ⟨w.heap.size + 1, 0, none⟩ (.slice none 0 0)).setCell ⟨w.heap.size + 3, 0, none⟩ (.int .i64 z)) A (st.wait.map strV)   := by
  subst hzn
  have hz := h.size
  have G1 : Fr (fun k => k = w.heap.size + 1) W (W.setCell ⟨w.heap.size + 1, 0, none⟩ (.slice none 0 0)) := (Fr.refl _ W).setCell (p := ⟨w.heap.size + 1, 0, none⟩) (fun _ => by exact (rfl : w.heap.size + 1 = w.heap.size + 1)) _
  have G2 : Fr (fun k => k = w.heap.size + 3) (W.setCell ⟨w.heap.size + 1, 0, none⟩ (.slice none 0 0)) ((W.setCell ⟨w.heap.size + 1, 0, none⟩ (.slice none 0 0)).setCell ⟨w.heap.size + 3, 0, none⟩ (.int .i64 (n : Int))) := (Fr.refl _ _).setCell (p := ⟨w.heap.size + 3, 0, none⟩) (fun _ => by exact (rfl : w.heap.size + 3 = w.heap.size + 3)) _
  have G : Fr (fun k => w.heap.size ≤ k ∧ k < w.heap.size + 4) W ((W.setCell ⟨w.heap.size + 1, 0, none⟩ (.slice none 0 0)).setCell ⟨w.heap.size + 3, 0, none⟩ (.int .i64 (n : Int))) :=
    (G1.mono (fun k e => by omega)).trans (G2.mono (fun k e => by omega))
  obtain ⟨A, c, hvw, hc1, hc2, hsl⟩ := own_slt h.ow
  refine ⟨⟨h.fr.then_ G (fun i hi e => by omega), ⟨by omega, G.size⟩, (h.bo.keep G1 (by omega)).keep G2 (by omega), (h.bw.set 0 _).keep G2 (by omega), (h.ba.keep G1 (by omega)).keep G2 (by omega), (h.be.keep G1 (by omega)).set 0 _, own_far h.oo G (fun k hk e => by omega), h.rc.map (fun A xs s => (s.keep G (fun k hk e => by omega)).mono (fun k hk => ⟨hk.1, by omega⟩)), World.ownsRow_nil _ _ _ _⟩, ?_, A, c, hvw, hc1, hc2, ?_⟩
  · exact (Stp.set w W (by omega) (by omega) _).trans (Stp.set w _ (by omega) (by omega) _)
  · exact (hsl.lt.keep G (fun k hk e => by omega)).mono (fun k hk => ⟨by omega, hk.2⟩)
/-- A reply more. -/
theorem AuI.put {w : World} {st : Aus} {W w1 : World} {B : Nat} {vo vw v' : Value} {cs : List Value} {r : Rpl} {ls : List (List UInt8)} {A : Option Addr} {c : Nat} {tmp : Obj} (h : AuI w st W B vo vw cs)
    (hown : w1.ownsRow (w.heap.size + 5) 86 7 v' (st.out.length + 1) (cs ++ rplCells r (.slice A ls.length c))) (hg : (W.alloc tmp).grownBy w1 vo.ownBlock)
    (h1 : ls.length ≤ c) (h2 : c ≤ 9223372036854775807) (h3 : SlT 9 (fun k => w.heap.size + 5 ≤ k ∧ k < B) W A (ls.map strV)) :
    Blk w1 w.heap.size 40 #[vo] ∧ AuI w { st with out := st.out ++ [(r, ls)] } (w1.setCell ⟨w.heap.size, 0, none⟩ v') B v' vw (cs ++ rplCells r (.slice A ls.length c)) ∧ Stp w W (w1.setCell ⟨w.heap.size, 0, none⟩ v') := by
  have k1 := h.no ((Fr.refl No W).alloc tmp)
  have k3 := h3.keep ((Fr.refl No W).alloc tmp) (fun _ _ => id)
  have bo1 := blk_grown k1.bo k1.oo ne_rpl.1 hg
  have S1 : Stp w (W.alloc tmp) w1 := Stp.grown k1.oo (Nat.le_refl _) hg
  have hz := k1.size
  have F1 : Fr (fun k => w.heap.size + 5 ≤ k) (W.alloc tmp) w1 := (Fr.of_grown hg).mono fun k hk => (k1.oo.lt k hk.symm).1
  have F2 : Fr (fun k => k = w.heap.size) w1 (w1.setCell ⟨w.heap.size, 0, none⟩ v') := (Fr.refl _ w1).setCell (p := ⟨w.heap.size, 0, none⟩) (fun _ => by exact (rfl : w.heap.size = w.heap.size)) _
  refine ⟨bo1, ⟨(k1.fr.then_ F1 (fun i hi e => by omega)).then_ F2 (fun i hi e => by omega), ⟨hz.1, by have := F1.size; have := F2.size; omega⟩, bo1.set 0 _, (blk_grown k1.bw k1.oo ne_rpl.2.1 hg).keep F2 (by omega), (blk_grown k1.ba k1.oo ne_rpl.2.2.1 hg).keep F2 (by omega), (blk_grown k1.be k1.oo ne_rpl.2.2.1 hg).keep F2 (by omega), ?_, ?_, ?_⟩, ?_⟩
  · have := own_set hown bo1 ne_rpl.1 0 v'
    simpa using this
  · exact RC.snoc (k1.rc.map (fun A xs s => (s.grown k1.oo ne_rpl.2.2.2 hg).keep F2 (fun k hk e => by omega))) h1 h2 ((k3.grown k1.oo ne_rpl.2.2.2 hg).keep F2 (fun k hk e => by omega))
  · exact own_far (k1.ow.kept hg (own_ne k1.ow k1.oo ne_str.2.2.2)) F2 (fun k hk e => by omega)
  · exact ((Stp.no ((Fr.refl No W).alloc tmp)).trans S1).trans (Stp.set w w1 (by omega) (by omega) v')

theorem seven_new (W : World) (b : Nat) (hb : b = W.heap.size) (t : TypeId) (v0 v1 v2 v3 v4 v5 v6 : Value) : ∀ j u, [v0, v1, v2, v3, v4, v5, v6][j]? = some u → (W.alloc (.cells #[v0, v1, v2, v3, v4, v5, v6] t)).drew.cell? ((⟨b, 0, none⟩ : Addr).add j) = some u := by
  subst hb
  intro j u hu
  have e : (⟨W.heap.size, 0, none⟩ : Addr).add j = ⟨W.heap.size, 0 + j, none⟩ := by unfold Addr.add; split <;> simp_all
  rw [e, Nat.zero_add]
  exact (Blk.new W t #[v0, v1, v2, v3, v4, v5, v6]).cell_ j (by rw [← hu]; simp)

def RepPost (w : World) (b : List UInt8) (e : Ending) (w' : World) : Prop :=
  ∃ A c cs, e = .returned (.tuple #[.slice A (audS b).out.length c, .int .i64 ((b.length : Int) - ((audS b).end_ : Int))]) ∧ (audS b).out.length ≤ c ∧ c ≤ 9223372036854775807 ∧
    SlP (fun k => w.heap.size ≤ k) w' A cs ∧ RC (fun k => w.heap.size ≤ k) w' (audS b).out cs ∧ Fr No w w'

end Go.Proofs.YtoockgijliacdaaDoor
