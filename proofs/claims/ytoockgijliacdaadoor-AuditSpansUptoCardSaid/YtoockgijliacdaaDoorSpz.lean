/-
  AuditSpans, where what it reads is of bulk at most 1048576: of any facts and any peer the program's spans are those of the document; the example holds. The row lists octet.digits, utf8.acceptRanges, fsm.table and utf8.first with what they hold; the card ties them to the program's text.
-/
import Derived.Test.YtoockgijliacdaaDoorAlw
import Derived.Test.YtoockgijliacdaaDoorSpl
namespace Go.Proofs.YtoockgijliacdaaDoor
open Go.ChangeShapes Go.WideShapes Go.ChangeAt Go.RowKit

theorem facts_list {w : World} (els : List (List Value)) (h : ∀ el ∈ els, Tr w 102 el) : ∃ fs : List Fct, fs.map Fct.cells = els ∧ ∀ f ∈ fs, FctIn w f := by
  induction els with
  | nil => exact ⟨[], rfl, fun f hf => by cases hf⟩
  | cons el els ih =>
    obtain ⟨fs, e1, h1⟩ := ih (fun x hx => h x (by simp [hx]))
    obtain ⟨f, e2, h2⟩ := fact_in (h el (by simp))
    refine ⟨f :: fs, by simp [e1, e2], fun g hg => ?_⟩
    rcases List.mem_cons.1 hg with rfl | hg
    · exact h2
    · exact h1 g hg
/-- Facts that came in, of no great bulk. -/
theorem facts_in {H : Type} {enc : TypeId × Value → H} {W : World} {a : Option Addr} {len cap : Nat} {d : DataW H} {p : List MemPlace}
    (h : DataW.Trod enc Tryd.prog W 0 (fun _ => true) true 50 (.slice a len cap) d p) (hb : Rows.uptoBulk d ≤ 1048576) :
    ∃ fs : List Fct, fs.length = len ∧ len ≤ 1048576 ∧ SlP (fun k => k < W.heap.size) W a (FactsC fs) ∧ ∀ f ∈ fs, FctIn W f := by
  obtain ⟨fuel, hf⟩ := h
  have ht : Tr W 50 [.slice a len cap] := ⟨H, enc, fuel, (d, p), hf, hb⟩
  obtain ⟨a', len', cap', e1, _, _, hl, els, hlen, hel, hs⟩ := Tr.slice (n := 28) Tryd.underlying50 (by kernel_rfl) ht
  injection e1 with e1 _
  injection e1 with e1 e2 e3
  subst e1 e2 e3
  obtain ⟨fs, e, hi⟩ := facts_list els (fun el he => (hel el he).2)
  refine ⟨fs, by rw [← hlen, ← e]; simp, hl, ?_, hi⟩
  unfold FactsC
  rw [e]
  exact hs (by decide)

namespace AuditSpansUpto
theorem laid_met (os : Os) : laidMet Tryd.prog Rows.auditSpansUptoRow.laid ((laidWorld os).forCall (fun _ _ => 0) ⟨#[], #[.slice none 0 0, .int .i64 0], []⟩).memory :=
  laidMet_of_run' 8 (by kernel_rfl) (by kernel_rfl)
theorem reads (os : Os) {H : Type} (enc : TypeId × Value → H) : ∃ places, DataW.whole enc Tryd.prog ((laidWorld os).forCall (fun _ _ => 0) ⟨#[], #[.slice none 0 0, .int .i64 0], []⟩).memory Tryd.f9.params.toList Rows.auditSpansSpec.vars false #[Value.slice none 0 0, Value.int .i64 0].toList 8 = some ([.nil, .lit (.int .i64 0)], [], places) :=
  ⟨[], by kernel_rfl⟩

set_option maxRecDepth 100000 in
theorem contract (H : Type) (enc : TypeId × Value → H) (W : World) (base : Nat) (args : Array Value) (ds gs : List (DataW H)) (before : List MemPlace)
    (hval0 : ∀ (j : Nat) t v, Tryd.f9.params[j]? = some t → args[j]? = some v → Value.okWide Tryd.prog W .any base t v)
    (hW : DataW.Whole enc Tryd.prog Tryd.f9.params.toList Rows.auditSpansSpec.vars false W args.toList ds gs before) (hk : Rows.uptoSmall H (ds ++ gs) = true) (hL : laidMetH Tryd.prog Rows.auditSpansUptoRow.laid W) (hsh : W.ShapedOpen Tryd.prog) :
    Calls Tryd.prog 9 args W fun e W' => ∃ v, e = .returned v ∧ Rows.auditSpansSpec.post enc Tryd.prog Tryd.f9 false true false false W args v W' := by
  have hval : ∀ (j : Nat) t v, Tryd.f9.params[j]? = some t → args[j]? = some v → Value.okWide Tryd.prog W .any base t v := hval0
  have hW' := hW
  obtain ⟨p, q, hA0, hV, rfl, hfz, hnd⟩ := hW
  have hA : DataW.TrodAll enc Tryd.prog W 0 (fun _ => true) true Tryd.f9.params.toList args.toList ds p := hA0
  rw [Tryd.params9] at hA hval
  obtain ⟨v0, vs0, d0, ds0, p0, q0, hargs, rfl, rfl, h0, r0⟩ := trodAll_cons hA
  obtain ⟨v1, vs1, d1, ds1, p1, q1, rfl, rfl, rfl, h1, r1⟩ := trodAll_cons r0
  obtain ⟨rfl, rfl, rfl⟩ := trodAll_nil r1
  obtain rfl : args = #[v0, v1] := by cases args; simp_all
  obtain ⟨rfl, rfl⟩ := trodVars_none hV
  obtain ⟨a0, len0, cap0, rfl⟩ := okWide_slice Tryd.underlying50 (hval 0 50 v0 rfl rfl)
  have k0 := h0
  have k1 := h1
  have lt0 : ∀ x ∈ p0, x.block < W.heap.size := by obtain ⟨m, hm⟩ := k0; exact DataW.trod_lt m _ _ _ hm
  have lt1 : ∀ x ∈ p1, x.block < W.heap.size := by obtain ⟨m, hm⟩ := k1; exact DataW.trod_lt m _ _ _ hm
  obtain ⟨z, rfl, hd1, _, _⟩ := open_int Tryd.underlying3 (hval 1 3 v1 rfl rfl) h1
  have hbulk : Rows.uptoBulk d0 ≤ 1048576 := by
    have hb := of_decide_eq_true hk
    simp only [List.cons_append, Rows.uptoBulkAll] at hb
    omega
  obtain ⟨fs, hl, hlen, hs, hi⟩ := facts_in h0 hbulk
  rw [MakeChecks.laidMetH_plain _ _ _ (by kernel_rfl)] at hL
  have hd := digs_of_shape hsh hL
  have hml := ml_of_shape hsh
  clear hA0 hval0 hd1
  subst hl
  refine (lawSpans_any W a0 cap0 fs z hs hi hlen hd hml).mono fun e W' ⟨he, fr⟩ => ?_
  have bel : Below W.heap.size W W' := fr.below
  subst he
  exact ⟨_, rfl, _, _, _, [], _, [], hW', trodAll_mk1 (shut_bool Tryd.underlying4 _), (trodAll_cons_mk (Below.trod laidOut_ (by kernel_rfl) (of_decide_eq_true (by kernel_rfl)) k0 bel lt0) (trodAll_cons_mk (Below.trod laidOut_ (by kernel_rfl) (of_decide_eq_true (by kernel_rfl)) k1 bel lt1) trodAll_mk0)), rfl, bel.frame _, fun h => by cases h⟩

set_option maxRecDepth 100000 in
theorem lifted (os : Os) (started : os.Started) (H : Type) (enc : TypeId × Value → H) (F : Stop.Interp) :
    ReturnsInHanded {} Tryd.checked os 9 .any ((Rows.OpenSpec.upto Rows.auditSpansSpec).preRow enc Tryd.prog Tryd.f9 Rows.auditSpansUptoRow.domain false Rows.auditSpansUptoRow.laid) (((Rows.OpenSpec.upto Rows.auditSpansSpec).at F).post enc Tryd.prog Tryd.f9 false true false false) := by
  obtain ⟨places, hx⟩ := reads os enc
  refine returnsInHanded_of_row (C := Tryd.checked) (s := Rows.OpenSpec.upto Rows.auditSpansSpec) ownKnob_ started (by kernel_rfl) Tryd.func9
    (witness_row_at (enc := enc) (C := Tryd.checked) false (laidWorld os) #[.slice none 0 0, .int .i64 0] rfl (by kernel_rfl) (by kernel_rfl) (by kernel_rfl)
      (OpenSpec.preRow_of_cond 8 hx (by kernel_rfl) (fun k hk => by cases hk; kernel_rfl) (by kernel_rfl) (laid_met os))) ?_
  intro W base args ds gs before hval hW _ hcond _ hL hsh _
  exact contract H enc W base args ds gs before hval hW (hcond _ rfl) hL hsh

theorem said : Rows.AuditSpansUptoSaid :=
  OpenClaim.holds_of_cond 9 Tryd.f9 rfl rfl rfl rfl rfl rfl rfl ⟨rfl, rfl, rfl, rfl, rfl⟩ rfl rfl rfl rfl rfl (by kernel_rfl) Tryd.func9 (by kernel_rfl)
    (of_decide_eq_true (by kernel_rfl)) (by unfold Func.isWrapper; first | (rw [if_pos (by decide +kernel)]; kernel_rfl) | (rw [if_neg (by decide +kernel)]; exact ⟨rfl, rfl⟩))
    (fun os started H enc _ F => by rw [OpenClaim.pre_eq_preRow]; exact lifted os started H enc F)
theorem plain (f : FuncId) (fn : Func) (hf : Tryd.pinned.checked.prog.funcNamed "speculum/speculumlaw31.AuditSpans" = some f) (hfn : Tryd.pinned.checked.prog.funcs[f]? = some fn) :
    true = Tryd.pinned.checked.prog.looks [] ∧ ∀ (j : Nat) t, fn.params[j]? = some t → Tryd.pinned.checked.prog.wantsStandIn t = false := by
  obtain rfl : f = 9 := Option.some.inj ((show Tryd.prog.funcNamed "speculum/speculumlaw31.AuditSpans" = some 9 by kernel_rfl).symm.trans hf) |>.symm
  obtain rfl : fn = Tryd.f9 := (Option.some.inj (Tryd.func9.symm.trans hfn)).symm
  refine ⟨by kernel_rfl, fun j t ht => ?_⟩
  rw [Tryd.params9] at ht
  have hmt : t ∈ [50, 3] := by simpa using Array.mem_of_getElem? ht
  simp only [List.mem_cons, List.mem_nil_iff, or_false] at hmt
  rcases hmt with rfl | rfl
  · exact (show Tryd.prog.wantsStandIn 50 = false by kernel_rfl)
  · exact (show Tryd.prog.wantsStandIn 3 = false by kernel_rfl)
end AuditSpansUpto

theorem auditSpansUpto_card : Rows.AuditSpansUptoCardSaid :=
  Claim7.holds_tied_plain_at .later [] _ _ _ _ AuditSpansUpto.said (fun _ h => by cases h) (by kernel_rfl) (fun _ h => by cases h) auditSpansUpto_row_tie rfl ⟨rfl, rfl⟩ (by kernel_rfl) rfl AuditSpansUpto.plain (by kernel_rfl)
#print axioms auditSpansUpto_card
end Go.Proofs.YtoockgijliacdaaDoor
