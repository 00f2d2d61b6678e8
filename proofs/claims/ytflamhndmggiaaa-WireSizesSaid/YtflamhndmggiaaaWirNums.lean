/-
  The walk of WireNums: whatever the list of records, the call answers true and changes nothing that was there.
-/
import Derived.Test.YtflamhndmggiaaaWirE
import Derived.Deep.RegionHeld3
namespace Go.Proofs.Ytflamhndmggiaaa
open Go.RowKit

/-- Law 2's argument: at each place a number, texts, numbers, bytes. -/
def Asks2 (w : World) (A : Option Addr) (n : Nat) : Prop :=
  n ≤ 9223372036854775807 ∧ (0 < n → ∃ b off, A = some ⟨b, off, none⟩ ∧ ∀ k, k < n → ∃ N A1 n1 c1 ls A2 n2 c2 xs A3 n3 c3 bs, w.cell? ⟨b, off + k * 4, none⟩ = some (.int .i64 N) ∧ w.cell? ⟨b, off + k * 4 + 1, none⟩ = some (.slice A1 n1 c1) ∧
    w.cell? ⟨b, off + k * 4 + 2, none⟩ = some (.slice A2 n2 c2) ∧ w.cell? ⟨b, off + k * 4 + 3, none⟩ = some (.slice A3 n3 c3) ∧ (-9223372036854775808 ≤ N ∧ N ≤ 9223372036854775807) ∧ (Sl w 1 A1 n1 (strs ls) ∧ n1 ≤ 150000000000001 ∧ ∀ s ∈ ls, s.size ≤ 150000000000001) ∧
    (Sl w 1 A2 n2 (ints xs) ∧ n2 ≤ 150000000000001 ∧ ∀ z ∈ xs, -9223372036854775808 ≤ z ∧ z ≤ 9223372036854775807) ∧ (Sl w 1 A3 n3 (bytes8 bs) ∧ n3 ≤ 150000000000001 ∧ n3 ≤ c3 ∧ c3 ≤ 9223372036854775807))

theorem heavy2_false {T nB nN : Nat} (h : heavy2 T nB nN = false) : T ≤ 8000 ∧ nB ≤ 8000 ∧ nN ≤ 500 := by
  simp [heavy2] at h
  omega
theorem getN_enc {m : Nat} (hm : m ≤ 9223372036854775807) (bs : List UInt8) : getN (enc m ++ bs) = some (m, (enc m).length) :=
  dec_enc 9 m bs (by have : (128 : Nat) ^ 9 = 9223372036854775808 := by decide
                     omega) (by omega)

/-- The error that is told: 0 or 1. -/
def gotE (bs : List UInt8) : Int := if (getN bs).isSome then 0 else 1
theorem wire_GetNum {A : Option Addr} {n c : Nat} {bs : List UInt8} (w : World) (hs : Sl w 1 A n (bytes8 bs)) (hn : n ≤ 9223372036854775807) :
    Calls Try.prog 30 #[.slice A n c] w fun e w' => e = .returned (.tuple #[.int .i64 (gotN bs).1, .int .i64 (gotN bs).2, .int .i64 (gotE bs)]) ∧ w = w' := by
  cases hg : getN bs with
  | none =>
    refine (wire_GetNum_no w hs hn hg).mono ?_
    rintro e w' ⟨rfl, rfl⟩
    exact ⟨by simp [gotN, gotE, hg], rfl⟩
  | some p =>
    obtain ⟨m, k⟩ := p
    refine (wire_GetNum_yes w hs hn hg).mono ?_
    rintro e w' ⟨rfl, rfl⟩
    exact ⟨by simp [gotN, gotE, hg], rfl⟩
theorem got_cases (bs : List UInt8) : ∃ (a j : Nat) (er : Int), Hid (gotN bs = (a, j)) ∧ Hid (gotE bs = er) ∧ ((0 < j ∧ er = 0) ∨ (j = 0 ∧ er = 1 )) := by
  cases hg : getN bs with
  | none => exact ⟨0, 0, 1, by simp [Hid, gotN, hg], by simp [Hid, gotE, hg], .inr ⟨rfl, rfl⟩⟩
  | some p =>
    obtain ⟨m, k⟩ := p
    refine ⟨m, k, 0, by simp [Hid, gotN, hg], by simp [Hid, gotE, hg], .inl ⟨?_, rfl⟩⟩
    obtain ⟨_, h2, _⟩ := dec_some 9 bs m k hg
    rw [h2]
    exact enc_pos m
set_option maxRecDepth 100000 in
set_option maxHeartbeats 4000000 in
theorem walk_WireNums {v : Value} {w : World} (ho : ∃ A n c, v = .slice A n c ∧ Asks2 w A n) :
    Calls Try.prog 5 #[v] w fun r w' => r = .returned (.bool true) ∧ Below w.heap.size w w' := by
  obtain ⟨A, n, c, rfl, hn, h⟩ := ho
  obtain ⟨i0, hi, hz0, hz1, hz2⟩ := info_parts Try.infoByte
  go_enter Try.func5, Try.ntmps5
  go_wp2_with fail
  go_loopw [3] (fun i wr => ∃ k : Nat, k ≤ n ∧ i = .int .i64 k ∧ Below w.heap.size w wr) (fun i _ => n - (intOf i).toNat)
  case atStart => exact ⟨0, Nat.zero_le _, rfl, Below.refl _ _⟩
  case round =>
    obtain ⟨k, hk, rfl, hb⟩ := hrel
    obtain ⟨wo, rfl⟩ : ∃ wo : World, wo = wr := ⟨_, rfl⟩
    by_cases hlt : k < n
    · obtain ⟨b, off, rfl, hc⟩ := h (by omega)
      obtain ⟨N, A1, n1, c1, ls, A2, n2, c2, xs, A3, n3, c3, bs, C0, C1, C2, C3, ⟨hN1, hN2⟩, ⟨S1, hn1, hz⟩, ⟨S2, hn2, hzz⟩, ⟨S3, hn3, _, _⟩⟩ := hc k hlt
      have e0 := cell_later hb C0
      have e1 := cell_later hb C1
      have e2 := cell_later hb C2
      have e3 := cell_later hb C3
      have HC0 := hide C0
      have HC3 := hide C3
      have HS1 := hide S1
      have HS3 := hide S3
      have HZ := hide hz
      obtain ⟨T, ht⟩ : ∃ T, twGo ls n1 = T := ⟨_, rfl⟩
      have HT := hide ht
      clear C0 C1 C2 C3 S1 S2 S3 hz hzz ht h hc
      by_cases hm : k < 12
      · cases hv : heavy2 T n3 n2
        case true =>
          go_wp2_with (first | (go_at_call 27; refine (law2_heavy _ (HS1.out.below hb) hn1 HZ.out HT.out (by omega) (by omega)).mono ?_; rintro e w1 ⟨rfl, hb1'⟩; rw [hv]; have hb1 := hb.trans (hb1'.mono hb.size); have d0 := cell_later hb1 HC0.out; have d3 := cell_later hb1 HC3.out))
          go_ret
          exact ⟨rfl, hb1⟩
        case false =>
          have hv3 := hide (heavy2_false hv)
          by_cases hN : N < 0
          · obtain ⟨a, j, er, HA, HJ, hcase⟩ := got_cases bs
            have hnb : n3 ≤ 8000 := hv3.out.2.1
            rcases hcase with ⟨hj, he⟩ | ⟨hj, he⟩
            · subst he
              have hj2 : ((j : Int) == 0) = false := by simp; omega
              go_wp2_with (first | (go_at_call 27; refine (law2_heavy _ (HS1.out.below hb) hn1 HZ.out HT.out (by omega) (by omega)).mono ?_; rintro e w1 ⟨rfl, hb1'⟩; rw [hv]; have hb1 := hb.trans (hb1'.mono hb.size); have d0 := cell_later hb1 HC0.out; have d3 := cell_later hb1 HC3.out) | (go_at_call 28; refine (wire_Num_no N _ hN).mono ?_; rintro e w2 ⟨rfl, rfl⟩; have hb7 := hb1; have hl7 := hb7.size) | (go_at_call 29; refine (law2_num _ _).mono ?_; rintro e w' ⟨rfl, rfl⟩) | (go_at_call 30; refine (wire_GetNum _ (HS3.out.below hb7) (by omega)).mono ?_; rintro e w' ⟨rfl, rfl⟩; rw [HA.out, HJ.out]) | (go_at_call 33; refine (ref2_GetNum _ (HS3.out.below hb7) (by omega)).mono ?_; rintro e w8 ⟨rfl, hb8'⟩; rw [HA.out]; have HB8 := hide (hb7.trans (hb8'.mono hl7))))
              go_roundw
              case rel => exact ⟨k + 1, by omega, by go_num, HB8.out⟩
              case measure => simp [intOf]; omega
            · subst he
              subst hj
              go_wp2_with (first | (go_at_call 27; refine (law2_heavy _ (HS1.out.below hb) hn1 HZ.out HT.out (by omega) (by omega)).mono ?_; rintro e w1 ⟨rfl, hb1'⟩; rw [hv]; have hb1 := hb.trans (hb1'.mono hb.size); have d0 := cell_later hb1 HC0.out; have d3 := cell_later hb1 HC3.out) | (go_at_call 28; refine (wire_Num_no N _ hN).mono ?_; rintro e w2 ⟨rfl, rfl⟩; have hb7 := hb1; have hl7 := hb7.size) | (go_at_call 29; refine (law2_num _ _).mono ?_; rintro e w' ⟨rfl, rfl⟩) | (go_at_call 30; refine (wire_GetNum _ (HS3.out.below hb7) (by omega)).mono ?_; rintro e w' ⟨rfl, rfl⟩; rw [HA.out, HJ.out]) | (go_at_call 33; refine (ref2_GetNum _ (HS3.out.below hb7) (by omega)).mono ?_; rintro e w8 ⟨rfl, hb8'⟩; rw [HA.out]; have HB8 := hide (hb7.trans (hb8'.mono hl7))))
              go_roundw
              case rel => exact ⟨k + 1, by omega, by go_num, HB8.out⟩
              case measure => simp [intOf]; omega
          · obtain ⟨m, rfl⟩ : ∃ m : Nat, N = (m : Int) := ⟨N.toNat, by omega⟩
            have hm9 : m ≤ 9223372036854775807 := by omega
            clear hN hN1 hN2
            obtain ⟨L, HLL⟩ : ∃ L, Hid ((enc m).length = L) := ⟨_, rfl⟩
            have hL9 : L ≤ 9 := by rw [← HLL.out]; exact enc_len_63 (by omega)
            go_wp2_with (first | (go_at_call 27; refine (law2_heavy _ (HS1.out.below hb) hn1 HZ.out HT.out (by omega) (by omega)).mono ?_; rintro e w1 ⟨rfl, hb1'⟩; rw [hv]; have hb1 := hb.trans (hb1'.mono hb.size); have d0 := cell_later hb1 HC0.out; have d3 := cell_later hb1 HC3.out) | (go_at_call 28; refine (wire_Num_yes m _ hm9).mono ?_; rintro e w2 ⟨v2, rfl, hown2, hb2'⟩; rw [HLL.out] at hown2; obtain ⟨Av, cv, rfl⟩ := own_slice hown2; have hb2 := hb1.trans (hb2'.mono hb1.size); have f0 := cell_later hb2 HC0.out; have f3 := cell_later hb2 HC3.out; have hsz2 := hb2.size) | (go_at_call 29; refine (law2_num _ _).mono ?_; rintro e w' ⟨rfl, rfl⟩))
            have hnb : n3 ≤ 8000 := hv3.out.2.1
            have HG : Hid (getN (enc m ++ bs) = some (m, L)) := by rw [Hid, ← HLL.out]; exact getN_enc hm9 bs
            have HT2 := hide (Sl.of_own hown2)
            have H2 := hide hb2
            clear hb1 hb1' hb2' d0 d3 hb hown2 e0 e1 e2 e3 HT hb2 hv
            go_region_held3 (fun w' => w'.cell? ⟨b, off + k * 4 + 3, none⟩ = some (.slice A3 n3 c3)) (first | assumption | exact cell_later hb4 HC3.out | exact cell_later hb3 HC3.out | exact cell_later H2.out HC3.out) ((first | (go_at_call 31; refine (ref0_CopyBytes _ _ _ _ w2.drew HT2.out.drew (by omega) (by omega)).mono ?_; rintro e w3 ⟨v3, rfl, hown3, hb3'⟩; obtain ⟨A4, c4, rfl⟩ := own_slice hown3; have hb3 := (below_drewN H2.out 1).trans (hb3'.mono hsz2)) | (go_at_call 30; refine (wire_GetNum_yes _ (Sl.of_own hown4) (by omega) HG.out).mono ?_; rintro e w5 ⟨rfl, rfl⟩) | (refine step_append_any _ (by rfl) _ _ _ (by rfl) w2.heap.size 5 i0 (.int .u8 0) 1 1 Try.underlying28 hi hz0 hz1 hz2 (by rfl) (by omega) _ _ _ (by rfl) hown3 A3 n3 c3 (bytes8 bs) (by rfl) (HS3.out.below hb3) (bytes8_one _) (by unfold maxLen; omega) (by omega) (by have := hb3'.size; exact this) ?_; intro v4 w4 hown4 hg4; have hq4 := ((below_drewN (Below.refl w2.heap.size w2) 1).trans hb3').grown hg4 hb3'.size (fun g hg' => (hown3.lt g hg').1); have hb4 := H2.out.trans (hq4.mono hsz2); obtain ⟨A5, c5, rfl⟩ := own_slice hown4; rw [← bytes8_append] at hown4)))
            have t4 := HT2.out.below hq4
            have g0 := cell_later hb4 HC0.out
            have g3 := cell_later hb4 HC3.out
            have HB4 := hide hb4
            have hl4 := hb4.size
            clear hb4 hq4 hg4 hown4 hb3' hown3 hb3 f0 f3
            obtain ⟨a, j, er, HA, HJ, hcase⟩ := got_cases bs
            have hbeq : Hid ((enc m == enc m) = true) := by simp [Hid]
            rcases hcase with ⟨hj, he⟩ | ⟨hj, he⟩
            · subst he
              have hj2 : ((j : Int) == 0) = false := by simp; omega
              go_wp2_with (first | (go_at_call 29; refine (law2_num _ _).mono ?_; rintro e w' ⟨rfl, rfl⟩) | (go_at_call 32; refine (ref2_Num m _ hm9).mono ?_; rintro e w6 ⟨v6, rfl, hown6, hb6'⟩; rw [HLL.out] at hown6; obtain ⟨A6, c6, rfl⟩ := own_slice hown6; have t6 := t4.below hb6'; have u6 := Sl.of_own hown6; have hb6 := HB4.out.trans (hb6'.mono hl4); have i0 := cell_later hb6 HC0.out; have i3 := cell_later hb6 HC3.out; have hl6 := hb6.size) | (go_at_call 26; refine (ref0_EqBytes _ _ _ _ _ _ _ _ _ t6 (by omega) u6 (by omega)).mono ?_; rintro e w7 ⟨rfl, q, rfl⟩; rw [hbeq.out]; have hb7 := below_drewN hb6 q; have j0 := cell_later hb7 HC0.out; have j3 := cell_later hb7 HC3.out; have hl7 := hb7.size) | (go_at_call 30; refine (wire_GetNum _ (HS3.out.below hb7) (by omega)).mono ?_; rintro e w' ⟨rfl, rfl⟩; rw [HA.out, HJ.out]) | (go_at_call 33; refine (ref2_GetNum _ (HS3.out.below hb7) (by omega)).mono ?_; rintro e w8 ⟨rfl, hb8'⟩; rw [HA.out]; have HB8 := hide (hb7.trans (hb8'.mono hl7))))
              go_roundw
              case rel => exact ⟨k + 1, by omega, by go_num, HB8.out⟩
              case measure => simp [intOf]; omega
            · subst he
              subst hj
              go_wp2_with (first | (go_at_call 29; refine (law2_num _ _).mono ?_; rintro e w' ⟨rfl, rfl⟩) | (go_at_call 32; refine (ref2_Num m _ hm9).mono ?_; rintro e w6 ⟨v6, rfl, hown6, hb6'⟩; rw [HLL.out] at hown6; obtain ⟨A6, c6, rfl⟩ := own_slice hown6; have t6 := t4.below hb6'; have u6 := Sl.of_own hown6; have hb6 := HB4.out.trans (hb6'.mono hl4); have i0 := cell_later hb6 HC0.out; have i3 := cell_later hb6 HC3.out; have hl6 := hb6.size) | (go_at_call 26; refine (ref0_EqBytes _ _ _ _ _ _ _ _ _ t6 (by omega) u6 (by omega)).mono ?_; rintro e w7 ⟨rfl, q, rfl⟩; rw [hbeq.out]; have hb7 := below_drewN hb6 q; have j0 := cell_later hb7 HC0.out; have j3 := cell_later hb7 HC3.out; have hl7 := hb7.size) | (go_at_call 30; refine (wire_GetNum _ (HS3.out.below hb7) (by omega)).mono ?_; rintro e w' ⟨rfl, rfl⟩; rw [HA.out, HJ.out]) | (go_at_call 33; refine (ref2_GetNum _ (HS3.out.below hb7) (by omega)).mono ?_; rintro e w8 ⟨rfl, hb8'⟩; rw [HA.out]; have HB8 := hide (hb7.trans (hb8'.mono hl7))))
              go_roundw
              case rel => exact ⟨k + 1, by omega, by go_num, HB8.out⟩
              case measure => simp [intOf]; omega
      · go_wp2_with (first | (go_at_call 34; refine (law2_wakes _).mono ?_; rintro e w1 ⟨rfl, hb1⟩))
        go_ret
        exact ⟨rfl, hb.trans (hb1.mono hb.size)⟩
    · go_wp2_with (first | (go_at_call 34; refine (law2_wakes _).mono ?_; rintro e w1 ⟨rfl, hb1⟩))
      go_ret
      exact ⟨rfl, hb.trans (hb1.mono hb.size)⟩
end Go.Proofs.Ytflamhndmggiaaa
