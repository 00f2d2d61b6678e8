/-
  Contracts: numbers as texts: wire's and the reference's.
-/
import Derived.Test.YtihpmaifcebpiaaBat
import Derived.Test.YtihpmaifcebpiaaW0
namespace Go.Proofs.Ytihpmaifcebpiaa
open Go.RowKit

theorem numS_nat (m : Nat) : numS (m : Int) = tx (enc m) := by rw [numS, Int.toNat_natCast]
set_option maxRecDepth 100000 in
set_option maxHeartbeats 1000000 in
theorem wire_Texts {A : Option Addr} {n c : Nat} {xs : List Int} (w : World) (hs : Sl w 1 A n (ints xs)) (hn : n ≤ 1048576) (h0 : ∀ x ∈ xs, 0 ≤ x ∧ x ≤ 9223372036854775807) :
    Calls Try.prog 49 #[.slice A n c] w fun e w' => ∃ v', e = .returned v' ∧ w'.ownsRow w.heap.size 9 1 v' n (strs (xs.map numS)) ∧ Below w.heap.size w w' := by
  have HL := hide hs.ilen
  have H0 := hide h0
  clear h0
  obtain ⟨i0, hi, hz0, hz1, hz2⟩ := info_parts Try.infoStr
  go_enter Try.func49, Try.ntmps49
  go_wp2_with fail
  go_loopw [2, 7] (fun b i wr => ∃ k : Nat, k ≤ n ∧ i = .int .i64 k ∧ wr.ownsRow w.heap.size 9 1 b k (strs ((xs.map numS).take k)) ∧ Below w.heap.size w wr) (fun _ i _ => n - (intOf i).toNat)
  case atStart => exact ⟨0, Nat.zero_le _, rfl, World.ownsRow_nil _ _ _ _, Below.refl _ _⟩
  case round =>
    obtain ⟨k, hk, rfl, hown, hb⟩ := hrel
    have hsz := hb.size
    obtain ⟨wo, rfl⟩ : ∃ wo : World, wo = wr := ⟨_, rfl⟩
    obtain ⟨A2, c2, rfl⟩ := own_slice hown
    by_cases hlt : k < n
    · obtain ⟨b, off, u, rfl, HU, hc, _⟩ := hs.int hlt
      have hc' := cell_later hb hc
      obtain ⟨hu0, hu1⟩ := H0.out u (List.mem_of_getElem? HU.out)
      obtain ⟨m, rfl⟩ : ∃ m : Nat, u = (m : Int) := ⟨u.toNat, by omega⟩
      have hm : m ≤ 9223372036854775807 := by omega
      clear hc hs hu0 hu1
      have HO : Hid (strs ((xs.map numS).take (k + 1)) = strs ((xs.map numS).take k) ++ [.string (tx (enc m))]) := by
        rw [Hid, take_at (u := numS m) (by rw [List.getElem?_map, HU.out]; rfl)]; simp [strs, numS_nat]
      go_wp2_with fail
      refine (wire_num wo.heap.size _ m [] _ (World.ownsRow_nil _ _ _ _) (Nat.le_refl _) hm (by simp)).mono ?_
      rintro e w2 ⟨v2, rfl, hown2, hb2⟩
      rw [List.nil_append] at hown2
      obtain ⟨A3, c3, rfl⟩ := own_slice hown2
      have hcv := run_str_of_bytes (P := Try.prog) w2 27 9 5 Try.underlying27 Try.underlying5 Try.underlying9 (c := c3) (Sl.of_own hown2)
      obtain ⟨s, HS⟩ : ∃ s, Hid (tx (enc m) = s) := ⟨_, rfl⟩
      rw [HS.out] at hcv
      have hown3 := own_later hown hb2
      have hb3 := below_then hb hb2
      have hsz3 := hb3.size
      clear hown2 hb2 hown hb
      go_wp2_with (at_builtin; refine wpList_append_own _ rfl _ _ 78 rfl w.heap.size 9 i0 (.string ByteArray.empty) 1 16 Try.underlying78 hi hz0 hz1 hz2 rfl (by decide) _ _ _ rfl (hown3.alloc _) ⟨w2.heap.size, 0, none⟩ 1 1 [.string s] rfl rfl (news_one _ _ _) (one_str _) (by unfold maxLen; omega) (by omega) (by simp; omega) ?_)
      intro v4 w4 hown4 hg4 _
      have hb4 : Below w.heap.size w w4 := (hb3.alloc hsz3 _).grown hg4 (by simp; omega) (fun g hg' => (hown3.lt g hg').1)
      rw [← HS.out, ← HO.out] at hown4
      clear hg4 hown3 hb3 hcv
      go_wp2_with fail
      go_roundw
      case rel => exact ⟨k + 1, by omega, by go_num, hown4, hb4⟩
      case measure => simp [intOf]; omega
    · obtain rfl : k = n := by omega
      rw [List.take_of_length_le (by rw [List.length_map, HL.out]; exact Nat.le_refl _)] at hown
      go_wp2_with fail
      go_ret
      exact ⟨_, rfl, hown, hb⟩
set_option maxHeartbeats 400000 in
theorem ref4_num (n : Int) (w : World) (h0 : 0 ≤ n) (h1 : n ≤ 9223372036854775807) {s : ByteArray} (hs : Hid (numS n = s)) :
    Calls Try.prog 53 #[.int .i64 n] w fun e w' => e = .returned (.string s) ∧ Below w.heap.size w w' := by
  obtain ⟨m, rfl⟩ : ∃ m : Nat, n = (m : Int) := ⟨n.toNat, by omega⟩
  go_enter Try.func53, Try.ntmps53
  go_wp2_with fail
  refine (ref2_Num m _ (by omega)).mono ?_
  rintro e w2 ⟨v2, rfl, hown2, hb2⟩
  obtain ⟨A3, c3, rfl⟩ := own_slice hown2
  have hcv := run_str_of_bytes (P := Try.prog) w2 27 9 5 Try.underlying27 Try.underlying5 Try.underlying9 (c := c3) (Sl.of_own hown2)
  rw [← numS_nat, hs.out] at hcv
  clear hown2
  go_wp2_with fail
  go_ret
  exact ⟨rfl, hb2⟩
end Go.Proofs.Ytihpmaifcebpiaa
