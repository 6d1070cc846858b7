/- Contract of the reference's words. -/
import Derived.Test.YtoockgijliacdaaDoorArc
import Derived.Deep.AppendLies
namespace Go.Proofs.YtoockgijliacdaaDoor
open Go.RowKit

def WordsPost (w : World) (ps : List (List UInt8)) (e : Ending) (w' : World) : Prop :=
  ∃ A c, e = .returned (.slice A ps.length c) ∧ ps.length ≤ c ∧ c ≤ 9223372036854775807 ∧ SlT 9 (fun k => w.heap.size ≤ k) w' A (ps.map strV) ∧ Fr No w w'

structure Wd (w : World) (s : ByteArray) (k : Nat) (ps : List (List UInt8)) (cur : List UInt8) (vo : Value) (wr : World) : Prop where
  eq : splitB [] s.data.toList = ps ++ splitB cur (s.data.toList.drop k)
  own : wr.ownsRow w.heap.size 9 1 vo ps.length (ps.map strV)
  fr : Fr No w wr
  cur : cur.length ≤ k
  len : ps.length ≤ k

theorem extract_one (s : ByteArray) (k : Nat) (h : k < s.size) : s.extract k (k + 1) = str [s[k]] := by
  have e : (s.extract k (k + 1)).data.toList = [s[k]] := by
    have hl : k < s.data.toList.length := by rw [size_list]; exact h
    rw [Lib.extract_data, bytes_at s k h]
    apply List.ext_getElem?
    intro j
    rw [List.getElem?_take, List.getElem?_drop]
    cases j with
    | zero => simp [hl]
    | succ j => simp
  rw [← e, str_of]

set_option maxRecDepth 100000 in
set_option maxHeartbeats 2000000 in
theorem words_any (s : ByteArray) (w : World) (hs : s.size ≤ 10000) :
    Calls Tryd.prog 76 #[.string s] w (WordsPost w (splitB [] s.data.toList)) := by
  obtain ⟨i0, hi, hz0, hz1, hz2⟩ := info_parts infoStr
  have START : Hid (Wd w s 0 [] [] (.slice none 0 0) w) := Lib.hid ⟨by simp, World.ownsRow_nil _ _ _ _, Fr.refl _ _, by simp, by simp⟩
  have hfix : Hid (({ data := #[] } : ByteArray) = str []) := Lib.hid rfl
  go_enter Tryd.func76, Tryd.ntmps76
  go_wp2_with fail
  go_loopw [3, 4, 5] (fun o c i wr => ∃ (k : Nat) (ps : List (List UInt8)) (cur : List UInt8), k ≤ s.size ∧ i = .int .i64 (k : Int) ∧ c = .string (str cur) ∧ Hid (Wd w s k ps cur o wr)) (fun _ _ i _ => s.size - (intOf i).toNat)
  case atStart => exact ⟨0, [], [], Nat.zero_le _, rfl, by rw [hfix.out], START⟩
  case round =>
    obtain ⟨k, ps, cur, hk, rfl, rfl, hh⟩ := hrel
    clear START
    have HB := Lib.hid hh.out.fr.size
    have HO := Lib.hid hh.out.own
    have HLK : Hid (ps.length ≤ k) := Lib.hid hh.out.len
    have HL : Hid (ps.length ≤ 10000) := Lib.hid (by have := hh.out.len; omega)
    by_cases hlt : k < s.size
    · obtain ⟨x, hx⟩ : ∃ x, (((s[k]'hlt).toNat : Nat) : Int) = x := ⟨_, rfl⟩
      have hlt2 : k < s.data.toList.length := by rw [size_list]; exact hlt
      have hget : s.data.toList.drop k = s.data.toList[k]'hlt2 :: s.data.toList.drop (k + 1) := List.drop_eq_getElem_cons hlt2
      have hb : s[k] = s.data.toList[k]'hlt2 := bytes_at s k hlt
      by_cases h32 : x = 32
      · have hc : s.data.toList[k]'hlt2 = 32 := by rw [← hb]; apply UInt8.toNat_inj.1; show _ = 32; omega
        have NX : Hid (splitB [] s.data.toList = (ps ++ [cur]) ++ splitB [] (s.data.toList.drop (k + 1))) := Lib.hid (by
          rw [hh.out.eq, hget, hc]
          conv => lhs; rw [splitB]
          simp)
        have HF := Lib.hid hh.out.fr
        clear hget hb hc hlt2 hh
        subst h32
        go_wp2_with (at_builtin; refine wpList_append_lies _ rfl _ _ 83 rfl w.heap.size 9 i0 (.string ByteArray.empty) 1 16 Tryd.underlying83 hi hz0 hz1 hz2 rfl (by decide) _ _ _ rfl (HO.out.alloc _) ⟨wr.heap.size, 0, none⟩ 1 1 [.string (str cur)] rfl rfl (cell_one_new _ _ _) (by simp [Value.oneCell']) (by decide) (by have := HL.out; unfold maxLen; omega) (by have := HL.out; omega) (by have := HB.out; simp; omega) _ rfl ?_; intro g1 cap1 w4 hown1 hgrow1 hat1 hlt1)
        go_roundw
        case rel =>
          refine ⟨k + 1, ps ++ [cur], [], by omega, by go_num, by rw [hfix.out], Lib.hid ⟨NX.out, by simpa [strV] using hown1, ?_, by simp, by have := HLK.out; simp; omega⟩⟩
          exact (HF.out.alloc _).then_ (R' := fun k => w.heap.size ≤ k) ((Fr.of_grown hgrow1).mono fun k hk => ((HO.out.alloc (.cells #[.string (str cur)] 9)).lt k hk.symm).1) (fun i hi e => by omega)
        case measure => simp [intOf]; omega
      · have q : (x == 32) = false := by simpa using h32
        have hc : s.data.toList[k]'hlt2 ≠ 32 := fun e => h32 (by rw [← hx, hb, e]; rfl)
        obtain ⟨c, hcc⟩ : ∃ c, s.data.toList[k]'hlt2 = c := ⟨_, rfl⟩
        have NX : Hid (splitB [] s.data.toList = ps ++ splitB (cur ++ [c]) (s.data.toList.drop (k + 1))) := Lib.hid (by
          rw [hh.out.eq, hget, ← hcc]
          conv => lhs; rw [splitB]
          rw [if_neg hc])
        have HF := Lib.hid hh.out.fr
        have HCL : Hid (cur.length ≤ k) := Lib.hid hh.out.cur
        have hex : s.extract k (k + 1) = str [c] := by
          rw [← hcc]
          have := extract_one s k hlt
          rw [this, hb]
        have hss := str_append cur [c]
        clear hget hb hc hlt2 hh hcc h32
        have z1 : (str cur).size ≤ 10000 := by rw [str_size]; have := HCL.out; omega
        have z2 : (str [c]).size = 1 := rfl
        go_wp2
        go_roundw
        case rel => exact ⟨k + 1, ps, cur ++ [c], by omega, by go_num, by first | rfl | (rw [hss]), Lib.hid ⟨NX.out, HO.out, HF.out, by have := HCL.out; simp; omega, by have := HLK.out; omega⟩⟩
        case measure => simp [intOf]; omega
    · have hk2 : k = s.size := by omega
      have NX : Hid (splitB [] s.data.toList = ps ++ [cur]) := Lib.hid (by
        rw [hh.out.eq, hk2, ← size_list, List.drop_length]; rfl)
      have HF := Lib.hid hh.out.fr
      clear hh hk2
      go_wp2_with (at_builtin; refine wpList_append_lies _ rfl _ _ 83 rfl w.heap.size 9 i0 (.string ByteArray.empty) 1 16 Tryd.underlying83 hi hz0 hz1 hz2 rfl (by decide) _ _ _ rfl (HO.out.alloc _) ⟨wr.heap.size, 0, none⟩ 1 1 [.string (str cur)] rfl rfl (cell_one_new _ _ _) (by simp [Value.oneCell']) (by decide) (by have := HL.out; unfold maxLen; omega) (by have := HL.out; omega) (by have := HB.out; simp; omega) _ rfl ?_; intro g1 cap1 w4 hown1 hgrow1 hat1 hlt1)
      go_ret
      rw [NX.out]
      obtain ⟨A, c, e, h1, h2, h3⟩ := own_slt hown1
      injection e with ea _ ec
      subst ea ec
      refine ⟨some ⟨g1, 0, none⟩, cap1, by simp, by simpa using h1, h2, by simpa [strV] using h3, ?_⟩
      exact (HF.out.alloc _).then_ (R' := fun k => w.heap.size ≤ k) ((Fr.of_grown hgrow1).mono fun k hk => ((HO.out.alloc (.cells #[.string (str cur)] 9)).lt k hk.symm).1) (fun i hi e => by omega)

end Go.Proofs.YtoockgijliacdaaDoor
