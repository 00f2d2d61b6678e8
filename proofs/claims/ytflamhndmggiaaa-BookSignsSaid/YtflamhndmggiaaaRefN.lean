
/-
  Contract of the reference's laying of numbers of which one is below 0.
-/
import Derived.Test.YtflamhndmggiaaaWirG
namespace Go.Proofs.Ytflamhndmggiaaa
open Go.RowKit

set_option maxRecDepth 100000 in
set_option maxHeartbeats 1000000 in
theorem ref2_Nums_no {A : Option Addr} {n c : Nat} {xs : List Int} (w : World) (hs : Sl w 1 A n (ints xs)) (hn : n ≤ 1099511627776) (h0 : ∃ x ∈ xs, x < 0) (h1 : ∀ x ∈ xs, x ≤ 9223372036854775807) :
    Calls Try.prog 64 #[.slice A n c] w fun e w' => e = .returned (.tuple #[.slice none 0 0, .bool false]) ∧ Below w.heap.size w w' := by
  have HL := hide hs.ilen
  have H0 := hide h0
  have H1 := hide h1
  clear h0 h1
  obtain ⟨i0, hi, hz0, hz1, hz2⟩ := info_parts Try.infoByte
  go_enter Try.func64, Try.ntmps64
  go_wp2_with fail
  refine (ref2_Num n _ (by omega)).mono ?_
  rintro e w1 ⟨v1, rfl, hown1, hb1⟩
  have hz1' := hb1.size
  go_wp2_with fail
  go_loopw [4, 5] (fun b i wr => ∃ (k : Nat) (ys : List UInt8), k ≤ n ∧ i = .int .i64 k ∧ Hid (∀ x ∈ xs.take k, 0 ≤ x) ∧ ys.length ≤ 9 * (k + 1) ∧ wr.ownsRow w.heap.size 5 1 b ys.length (bytes8 ys) ∧ Below w.heap.size w wr) (fun _ i _ => n - (intOf i).toNat)
  case atStart => exact ⟨0, enc n, Nat.zero_le _, rfl, by simp [Hid], by have := enc_len_63 (n := n) (by omega); omega, hown1, hb1⟩
  case round =>
    obtain ⟨k, ys, hk, rfl, HY, hyl, hown, hb⟩ := hrel
    have hsz := hb.size
    clear hown1 hb1 hz1'
    obtain ⟨wo, rfl⟩ : ∃ wo : World, wo = wr := ⟨_, rfl⟩
    obtain ⟨A2, c2, rfl⟩ := own_slice hown
    have hlt : k < n := by
      apply Nat.lt_of_not_le
      intro h
      obtain ⟨x, hx, hn0⟩ := H0.out
      have := HY.out x (by rw [List.take_of_length_le (by rw [HL.out]; exact h)]; exact hx)
      omega
    obtain ⟨b, off, u, rfl, HU, hc, _⟩ := hs.int hlt
    have hc' := cell_later hb hc
    have hu1 := H1.out u (List.mem_of_getElem? HU.out)
    clear hc hs
    by_cases hu0 : u < 0
    · go_wp2_with fail
      go_ret2
      exact ⟨rfl, hb⟩
    · obtain ⟨m, rfl⟩ : ∃ m : Nat, u = (m : Int) := ⟨u.toNat, by omega⟩
      have hm : m ≤ 9223372036854775807 := by omega
      have HQ : Hid (∀ x ∈ xs.take (k + 1), 0 ≤ x) := by
        intro x hx
        rw [take_at HU.out, List.mem_append] at hx
        rcases hx with hx | hx
        · exact HY.out x hx
        · simp at hx; omega
      have hel := enc_len_63 (n := m) (by omega)
      clear hu0 hu1
      go_wp2_with fail
      refine (ref2_Num m _ hm).mono ?_
      rintro e w2 ⟨v2, rfl, hown2, hb2⟩
      obtain ⟨A3, c3, rfl⟩ := own_slice hown2
      have hown3 : wo.ownsRow w.heap.size 5 1 (.slice A2 ys.length c2) ys.length (bytes8 ys) := hown
      have hown4 := own_later hown3 hb2
      have hsz2 := hb2.size
      go_wp2_with (at_builtin; refine wpList_append_any _ rfl _ _ 28 rfl w.heap.size 5 i0 (.int .u8 0) 1 1 Try.underlying28 hi hz0 hz1 hz2 rfl (by decide) _ _ _ rfl hown4 A3 _ c3 (bytes8 (enc m)) rfl (Sl.of_own hown2) (bytes8_one _) (by unfold maxLen; omega) (by omega) (by omega) ?_)
      intro v3 w3 hown5 hg
      have hb3 := hb.trans (hb2.mono hsz)
      have hb4 : Below w.heap.size w w3 := hb3.grown hg (by omega) (fun g hg' => (hown4.lt g hg').1)
      rw [← bytes8_append, ← List.length_append] at hown5
      have hq : (ys ++ enc m).length ≤ 9 * (k + 1 + 1) := by rw [List.length_append]; omega
      clear hown3 hown4 hg hown2 hb3 hown hb hb2 hel hyl
      go_wp2_with fail
      go_roundw
      case rel => exact ⟨k + 1, _, by omega, by go_num, HQ, hq, hown5, hb4⟩
      case measure => simp [intOf]; omega
end Go.Proofs.Ytflamhndmggiaaa
