
/-
  Contracts of the references' functions over lists of texts: copies, comparisons.
-/
import Derived.Test.YtflamhndmggiaaaStr0
namespace Go.Proofs.Ytflamhndmggiaaa
open Go.RowKit

set_option maxHeartbeats 400000 in
theorem ref0_EqStrings (A B : Option Addr) (n c m d : Nat) (xs ys : List ByteArray) (w : World) (hs : Sl w 1 A n (strs xs)) (hn : n ≤ 9223372036854775807) (ht : Sl w 1 B m (strs ys)) (hm : m ≤ 9223372036854775807) :
    Calls Try.prog 59 #[.slice A n c, .slice B m d] w fun e w' => e = .returned (.bool (decide (xs = ys))) ∧ ∃ q, w' = w.drewN q := by
  have HL := hide hs.slen
  have HM := hide ht.slen
  by_cases hne : n = m
  · subst hne
    go_enter Try.func59, Try.ntmps59
    go_wp2_with fail
    go_loopw [5] (fun i wr => ∃ k : Nat, k ≤ n ∧ i = .int .i64 k ∧ xs.take k = ys.take k ∧ ∃ q, wr = w.drewN q) (fun i _ => n - (intOf i).toNat)
    case atStart => exact ⟨0, Nat.zero_le _, rfl, by simp, 0, rfl⟩
    case round =>
      obtain ⟨k, hk, rfl, hx, q, rfl⟩ := hrel
      have HX := hide hx
      clear hx
      by_cases hlt : k < n
      · obtain ⟨b, off, u, rfl, HU, hc, _⟩ := hs.str hlt
        obtain ⟨b', off', v, rfl, HV, hc', _⟩ := ht.str hlt
        clear hs ht
        go_wp2_with fail
        go_quiet (fail)
        by_cases he : u = v
        · subst he
          rw [show (u.toList == u.toList) = true by simp]
          go_wp2_with fail
          go_roundw
          case rel => exact ⟨k + 1, by omega, by go_num, by rw [take_at HU.out, take_at HV.out, HX.out], q + nq, rfl⟩
          case measure => simp [intOf]; omega
        · rw [toList_ne he]
          go_wp2_with fail
          go_ret
          refine ⟨ret_bool ?_, q + nq, World.drewN_drewN _ _ _⟩
          symm
          rw [decide_eq_false_iff_not]
          rintro rfl
          have e := HU.out.symm.trans HV.out
          injection e with e
          exact he e
      · obtain rfl : k = n := by omega
        go_wp2_with fail
        go_ret
        refine ⟨ret_bool ?_, q, rfl⟩
        have hx := HX.out
        rw [List.take_of_length_le (by rw [HL.out]; exact Nat.le_refl _), List.take_of_length_le (by rw [HM.out]; exact Nat.le_refl _)] at hx
        simp [hx]
  · have hne' : ((n : Int) != (m : Int)) = true := by simp; omega
    go_enter Try.func59, Try.ntmps59
    go_wp2_with fail
    go_ret
    refine ⟨ret_bool ?_, 0, rfl⟩
    symm
    rw [decide_eq_false_iff_not]
    intro e
    have h1 := HL.out
    have h2 := HM.out
    rw [e] at h1
    omega

set_option maxHeartbeats 400000 in
theorem ref0_CopyStrings (A : Option Addr) (n c : Nat) (xs : List ByteArray) (w : World) (hs : Sl w 1 A n (strs xs)) (hn : n ≤ 9223372036854775807) (hr : n * 16 ≤ 140737488355328) :
    Calls Try.prog 57 #[.slice A n c] w fun e w' => ∃ v, e = .returned v ∧ w'.ownsRow w.heap.size 9 1 v n (strs xs) ∧ Below w.heap.size w w' := by
  obtain ⟨i0, hi, hz0, hz1, hz2⟩ := info_parts Try.infoStr
  have HL := hide hs.slen
  go_enter Try.func57, Try.ntmps57
  go_wp2_with fail
  go_loopw [3, 4] (fun v i wr => ∃ k : Nat, k ≤ n ∧ i = .int .i64 k ∧ wr.ownsRow w.heap.size 9 1 v k (strs (xs.take k)) ∧ Below w.heap.size w wr) (fun _ i _ => n - (intOf i).toNat)
  case atStart => exact ⟨0, Nat.zero_le _, rfl, World.ownsRow_nil _ _ _ _, Below.refl _ _⟩
  case round =>
    obtain ⟨k, hk, rfl, hown, hb⟩ := hrel
    by_cases hlt : k < n
    · obtain ⟨b, off, u, rfl, HU, hc, _⟩ := hs.str hlt
      have hc' := cell_later hb hc
      clear hc hs
      go_wp2_with (first
        | (at_builtin; refine wpList_append_own _ rfl _ _ 45 rfl w.heap.size 9 i0 (.string ByteArray.empty) 1 16 Try.underlying45 hi hz0 hz1 hz2 rfl (by decide) _ _ _ rfl (hown.alloc _) ⟨wr.heap.size, 0, none⟩ 1 1 [.string u] rfl rfl ?c1 ?c2 ?c3 ?c4 ?c5 ?_))
      case c1 => exact news_one _ _ _
      case c2 => exact one_str _
      case c3 => unfold maxLen; omega
      case c4 => omega
      case c5 => have := hb.size; simp; omega
      intro v' w1 hown' hg _
      have HO : strs (List.take (k + 1) xs) = strs (List.take k xs) ++ [.string u] := by rw [take_at HU.out]; simp [strs]
      have hown2 := HO ▸ hown'
      have hb2 : Below w.heap.size w w1 := (hb.alloc hb.size _).grown hg (by simp; have := hb.size; omega) (fun g hg' => (hown.lt g hg').1)
      clear HO hown' hg hown hb hc'
      go_wp2_with fail
      go_roundw
      case rel => exact ⟨k + 1, by omega, by go_num, hown2, hb2⟩
      case measure => simp [intOf]; omega
    · obtain rfl : k = n := by omega
      have hown2 : wr.ownsRow w.heap.size 9 1 u3 k (strs xs) := by rw [List.take_of_length_le (by rw [HL.out]; exact Nat.le_refl _)] at hown; exact hown
      clear hown
      go_wp2_with fail
      go_ret
      exact ⟨_, rfl, hown2, hb⟩
end Go.Proofs.Ytflamhndmggiaaa
