/- Slices that a call owns, as its caller sees them. -/
import Derived.Test.YtoockgijliacdaaDoorBase
namespace Go.Proofs.YtoockgijliacdaaDoor
open Go.RowKit

theorem own_ne {w : World} {B B' : Nat} {e e' : TypeId} {size size' n n' : Nat} {v v' : Value} {xs xs' : List Value} (h : w.ownsRow B e size v n xs) (h' : w.ownsRow B' e' size' v' n' xs') (hne : e ≠ e') : v.ownBlock = none ∨ v.ownBlock ≠ v'.ownBlock := by
  rcases h.2 with ⟨rfl, _⟩ | ⟨g, cap, cur, rfl, _, hg, _⟩
  · exact .inl rfl
  · refine .inr ?_
    rcases h'.2 with ⟨rfl, _⟩ | ⟨g', cap', cur', rfl, _, hg', _⟩
    · simp [Value.ownBlock]
    · simp only [Value.ownBlock, ne_eq, Option.some.injEq]
      rintro rfl
      rw [hg] at hg'
      injection hg' with hg'
      injection hg' with _ ht
      exact hne ht
theorem own_blk {w : World} {B : Nat} {e : TypeId} {size n g : Nat} {v : Value} {xs : List Value} {t : TypeId} {cs : Array Value} (h : w.ownsRow B e size v n xs) (hb : Blk w g t cs) (hne : e ≠ t) : some g ≠ v.ownBlock := by
  rcases h.2 with ⟨rfl, _⟩ | ⟨g', cap, cur, rfl, _, hg, _⟩
  · simp [Value.ownBlock]
  · simp only [Value.ownBlock, ne_eq, Option.some.injEq]
    rintro rfl
    unfold Blk at hb
    rw [hg] at hb
    injection hb with hb
    injection hb with _ ht
    exact hne ht

theorem own_set {w : World} {B : Nat} {e : TypeId} {size n g : Nat} {v : Value} {xs : List Value} {t : TypeId} {cs : Array Value} (h : w.ownsRow B e size v n xs) (hb : Blk w g t cs) (hne : e ≠ t) (i : Nat) (u : Value) : (w.setCell ⟨g, i, none⟩ u).ownsRow B e size v n xs := by
  refine h.kept (row := some g) ⟨rfl, rfl, rfl, by simp [World.setCell], fun k _ hk => Below.heap_setCell _ _ _ _ (fun hc => hk (by rw [hc]))⟩ (.inr fun hc => own_blk h hb hne hc.symm)


theorem blk_grown {w w1 : World} {g B n size : Nat} {t e : TypeId} {cs : Array Value} {v : Value} {xs : List Value} (hb : Blk w g t cs) (h : w.ownsRow B e size v n xs) (hne : e ≠ t) (hg : w.grownBy w1 v.ownBlock) : Blk w1 g t cs :=
  (hg.block g hb.lt (own_blk h hb hne)).trans hb

theorem own_keep {w w1 : World} {B : Nat} {e : TypeId} {size n : Nat} {v : Value} {xs : List Value} (h : w.ownsRow B e size v n xs) (F : Fr No w w1) : w1.ownsRow B e size v n xs := by
  refine h.kept (row := none) ⟨F.os, F.tape, F.output, F.size, fun k hk _ => F.block k hk id⟩ ?_
  cases hv : v.ownBlock with
  | none => exact .inl rfl
  | some k => exact .inr (by simp)


theorem own_far {w w1 : World} {B : Nat} {e : TypeId} {size n : Nat} {v : Value} {xs : List Value} {R : Nat → Prop} (h : w.ownsRow B e size v n xs) (F : Fr R w w1) (hR : ∀ k, B ≤ k → ¬ R k) : w1.ownsRow B e size v n xs := by
  obtain ⟨h1, h2⟩ := h
  refine ⟨h1, ?_⟩
  rcases h2 with h2 | ⟨g, cap, cur, hv, hb, hg, h3⟩
  · exact .inl h2
  · refine .inr ⟨g, cap, cur, hv, hb, ?_, h3⟩
    have hlt : g < w.heap.size := by
      rcases Nat.lt_or_ge g w.heap.size with h | h
      · exact h
      · rw [Array.getElem?_eq_none h] at hg; cases hg
    exact (F.block g hlt (hR g hb)).trans hg

/-- A slice that a call owns, as its caller sees it. -/
theorem own_sl {w : World} {B : Nat} {e : TypeId} {n : Nat} {v : Value} {xs : List Value} (h : w.ownsRow B e 1 v n xs) : ∃ A c, v = .slice A n c ∧ n ≤ c ∧ c ≤ 9223372036854775807 ∧ Sl (fun k => B ≤ k) w A xs := by
  rcases id h.2 with ⟨hv, h0⟩ | ⟨g, cap, cur, hv, hb, hg, hc, hm, _⟩
  · subst h0
    have : xs = [] := List.eq_nil_of_length_eq_zero (by simpa using h.1)
    subst this
    exact ⟨none, 0, hv, Nat.le_refl _, by omega, Sl.nil _ _ _⟩
  · unfold maxLen at hm
    refine ⟨some ⟨g, 0, none⟩, cap, hv, hc, by omega, fun _ => ⟨_, rfl, hb, ?_⟩⟩
    exact h.cells (by rw [hv]; rfl)


/-- The cells xs lie at A, in an array of a block of S. -/
def SlP (S : Nat → Prop) (w : World) (A : Option Addr) (xs : List Value) : Prop :=
  xs ≠ [] → ∃ b o, A = some ⟨b, o, none⟩ ∧ S b ∧ ∀ j u, xs[j]? = some u → w.cell? ⟨b, o + j, none⟩ = some u

theorem own_slp {w : World} {B : Nat} {e : TypeId} {n k : Nat} {v : Value} {xs : List Value} (h : w.ownsRow B e k v n xs) : ∃ A c, v = .slice A n c ∧ n ≤ c ∧ c ≤ 9223372036854775807 ∧ SlP (fun k => B ≤ k) w A xs := by
  rcases id h.2 with ⟨hv, h0⟩ | ⟨g, cap, cur, hv, hb, hg, hc, hm, _⟩
  · subst h0
    have : xs = [] := List.eq_nil_of_length_eq_zero (by simpa using h.1)
    subst this
    exact ⟨none, 0, hv, Nat.le_refl _, by omega, fun h => absurd rfl h⟩
  · unfold maxLen at hm
    refine ⟨some ⟨g, 0, none⟩, cap, hv, hc, by omega, fun _ => ⟨g, 0, rfl, hb, fun j u hu => ?_⟩⟩
    have := h.cells (g := g) (by rw [hv]; rfl) j u hu
    have e : (⟨g, 0, none⟩ : Addr).add j = ⟨g, 0 + j, none⟩ := by unfold Addr.add; split <;> simp_all
    rw [e] at this
    exact this

theorem SlP.drop {S : Nat → Prop} {w : World} {A : Option Addr} {xs : List Value} (h : SlP S w A xs) (k : Nat) (h0 : 0 < k) (hk : k < xs.length) : SlP S w (A.map (·.add k)) (xs.drop k) := fun hn => by
  obtain ⟨b, o, rfl, hb, hcell⟩ := h (by rintro rfl; simp at hn)
  have e : (⟨b, o, none⟩ : Addr).add k = ⟨b, o + k, none⟩ := by unfold Addr.add; split <;> simp_all
  refine ⟨b, o + k, by simp [e], hb, fun j u hu => ?_⟩
  rw [Nat.add_assoc]
  exact hcell _ u (by rw [← hu, List.getElem?_drop])
theorem SlP.nil (S : Nat → Prop) (w : World) (A : Option Addr) : SlP S w A [] := fun h => absurd rfl h
theorem SlP.keep {S R : Nat → Prop} {w w1 : World} {A : Option Addr} {xs : List Value} (h : SlP S w A xs) (hf : Fr R w w1) (hn : ∀ k, S k → ¬ R k) : SlP S w1 A xs := fun he => by
  obtain ⟨b, o, e, hs, hc⟩ := h he
  refine ⟨b, o, e, hs, fun j u hu => ?_⟩
  have hc' := hc j u hu
  exact (World.cell?_of_block (w := w) (hf.block _ (by simpa using block_lt_of_cell hc') (hn _ hs))).trans hc'
theorem SlP.mono {S S' : Nat → Prop} {w : World} {A : Option Addr} {xs : List Value} (h : SlP S w A xs) (hs : ∀ k, S k → S' k) : SlP S' w A xs := fun hn => let ⟨b, o, e, hb, hc⟩ := h hn; ⟨b, o, e, hs _ hb, hc⟩

end Go.Proofs.YtoockgijliacdaaDoor
