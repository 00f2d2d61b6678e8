
/-
  The walk of BookOnce: whatever the argument, the call answers true and changes nothing that was there.
-/
import Derived.Test.YtflamhndmggiaaaBkX
namespace Go.Proofs.Ytflamhndmggiaaa
open Go.RowKit

theorem fndN_inj {L : List (List UInt8)} {x y : List UInt8} (hx : (fnd L x).isSome = true) (hy : (fnd L y).isSome = true) : (fndN (fnd L x) == fndN (fnd L y)) = (x == y) := by
  cases h1 : fnd L x with
  | none => rw [h1] at hx; cases hx
  | some i =>
    cases h2 : fnd L y with
    | none => rw [h2] at hy; cases hy
    | some j =>
      rw [Bool.eq_iff_iff]
      simp only [fndN, beq_iff_eq]
      constructor
      · intro e
        obtain rfl : i = j := by omega
        have := (fnd_some h1).1.symm.trans (fnd_some h2).1
        injection this
      · rintro rfl
        rw [h1] at h2
        injection h2 with h2
        rw [h2]
theorem fnd_mono {L : List (List UInt8)} {x y : List UInt8} (h : (fnd L y).isSome = true) : (fnd (addL L x) y).isSome = true := by
  rw [fnd_addL]
  cases hy : fnd L y with
  | none => rw [hy] at h; cases h
  | some i => rfl
theorem addL_self {L : List (List UInt8)} {x : List UInt8} (h : (fnd L x).isSome = true) : addL L x = L ∧ digN L x = fndN (fnd L x) := by
  unfold addL digN fndN
  rw [if_pos h]
  cases hf : fnd L x with
  | none => rw [hf] at h; cases h
  | some i => exact ⟨rfl, rfl⟩
/-- What holds of the records read. -/
def Had (w : World) (A : Option Addr) (L : List (List UInt8)) (k : Nat) : Prop :=
  ∀ j b off A3 n3 c3 bs, j < k → A = some ⟨b, off, none⟩ → w.cell? ⟨b, off + j * 4 + 3, none⟩ = some (.slice A3 n3 c3) → Sl w 1 A3 n3 (bytes8 bs) → (fnd L bs).isSome = true
theorem Sl.bytes_inj {w : World} {A : Option Addr} {n : Nat} {xs ys : List UInt8} (h : Sl w 1 A n (bytes8 xs)) (h' : Sl w 1 A n (bytes8 ys)) : xs = ys := by
  have hx := h.blen
  have hy := h'.blen
  refine List.ext_getElem? fun i => ?_
  rcases Nat.lt_or_ge i n with hi | hi
  · obtain ⟨b, off, u, e, hu, hc, _⟩ := h.byte hi
    obtain ⟨b', off', u', e', hu', hc', _⟩ := h'.byte hi
    rw [e] at e'
    injection e' with e'
    injection e' with e1 e2
    subst e1; subst e2
    rw [hc] at hc'
    injection hc' with hc'
    injection hc' with _ hc'
    rw [hu.out, hu'.out, UInt8.toNat_inj.mp (by omega : u.toNat = u'.toNat)]
  · rw [List.getElem?_eq_none (by omega), List.getElem?_eq_none (by omega)]

theorem eq_by {P : Program} {f : FuncId} {args : Array Value} {w : World} {R : World → Prop} {p q : Bool} (hp : p = q) (h : Calls P f args w fun e w' => e = .returned (.bool p) ∧ R w') : Calls P f args w fun e w' => e = .returned (.bool q) ∧ R w' := by
  rw [← hp]; exact h
theorem dig_at (L : List (List UInt8)) (x : List UInt8) : ∃ idx : Nat, digN L x = (idx : Int) + 1 ∧ (addL L x)[idx]? = some x := by
  unfold digN addL
  cases hf : fnd L x with
  | some i => exact ⟨i, rfl, (fnd_some hf).1⟩
  | none => exact ⟨L.length, rfl, by simp⟩
def CntOf (o : Option Nat) (n m : Nat) (d : Int) : Prop := match o with | some _ => m = n | none => d = (n : Int) + 1 ∧ m = n + 1
theorem cnt_of (L : List (List UInt8)) (x : List UInt8) : CntOf (fnd L x) L.length (addL L x).length (digN L x) := by
  unfold CntOf digN addL
  cases hf : fnd L x with
  | some i => rfl
  | none => exact ⟨rfl, by simp⟩
set_option maxRecDepth 100000 in
set_option maxHeartbeats 4000000 in
theorem walk_BookOnce {v : Value} {w : World} (ho : ∃ A n c, v = .slice A n c ∧ Acts5 w A n) :
    Calls Try.prog 4 #[v] w fun r w' => r = .returned (.bool true) ∧ Below w.heap.size w w' := by
  obtain ⟨A, n, c, rfl, hact⟩ := ho
  have hn := hact.1
  have HACT := hide hact
  clear hact
  go_enter Try.func4, Try.ntmps4
  go_wp2_with fail
  refine (law5_heavy _ HACT.out).mono ?_
  rintro e w' ⟨⟨hv, rfl, HVV⟩, rfl⟩
  cases hv with
  | true =>
    go_wp2_with fail
    go_ret
    exact ⟨rfl, Below.refl _ _⟩
  | false =>
    have HLT := hide (HVV rfl)
    clear HVV
    go_wp2_with fail
    refine (book_New _).mono ?_
    rintro e w1 ⟨g, G, rfl, hB, hlo, hb⟩
    have HBW := hide (BkW.mk hB hlo hb)
    clear hB hlo hb
    go_wp2_with fail
    go_loopw [4] (fun i wr => ∃ (k : Nat) (G : Nat → Prop) (L : List (List UInt8)), k ≤ n ∧ k ≤ 40 ∧ i = .int .i64 k ∧ Hid (BkW w G wr g L (fun _ => false)) ∧ Hid (L.length ≤ k) ∧ Hid (Had w A L k)) (fun i _ => n - (intOf i).toNat)
    case atStart => exact ⟨0, G, [], Nat.zero_le _, by omega, rfl, HBW, Nat.le_refl 0, fun j _ _ _ _ _ _ hj => by omega⟩
    case round =>
      clear HBW
      obtain ⟨k, G, L, hkn, hk40, rfl, HBW, HLL, HHAD⟩ := hrel
      obtain ⟨wo, rfl⟩ : ∃ wo : World, wo = wr := ⟨_, rfl⟩
      by_cases hlt : k < n
      · by_cases h40 : k < 40
        · have hd40 : decide ((k : Int) < 40) = true := by simp; omega
          obtain ⟨b, off, hA, hc⟩ := HACT.out.2 (by omega)
          obtain ⟨x, y, z, A3, n3, c3, bs, -, -, -, q3, -, -, -, hs3, hn3, hnc, hc3⟩ := hc k hlt
          have hl3 : n3 ≤ 10000 := HLT.out k b off A3 n3 c3 hlt h40 hA q3
          subst hA
          have HC3 := hide q3
          have HS3 := hide hs3
          have HL3 : Hid (n3 ≤ 1048576) := by rw [Hid]; omega
          have HLL2 : Hid (L.length ≤ 65535) := by have := HLL.out; rw [Hid]; omega
          have c3_0 := cell_later HBW.out.below HC3.out
          go_wp2_with fail
          refine (book_Count _ HBW.out.bk).mono ?_
          rintro e w' ⟨rfl, rfl⟩
          go_wp2_with fail
          refine (book_Find _ HBW.out.bk (HS3.out.below HBW.out.below) (by omega)).mono ?_
          rintro e w' ⟨rfl, q, rfl⟩
          have HB2 := hide (HBW.out.drewN q)
          have c3_1 := cell_later HB2.out.below HC3.out
          clear HBW c3_0
          generalize wo.drewN q = w2 at HB2 c3_1 ⊢
          obtain ⟨idx, hidx, hat⟩ := dig_at L bs
          have HDI := hide hidx
          have HAT := hide hat
          obtain ⟨L', HL'⟩ : ∃ L', Hid (addL L bs = L') := ⟨_, rfl⟩
          rw [HL'.out] at HAT
          clear hidx hat hc
          go_wp2_with fail
          refine (book_Digest (x := bs) _ HB2.out.bk (HS3.out.below HB2.out.below) HL3 HLL2 (notG_old HS3.out HB2.out.lo) HDI HL').mono ?_
          rintro e w3 ⟨rfl, hn3'⟩
          obtain ⟨G3, HB3', hG3⟩ := HB2.out.next hn3'
          have HB3 := hide HB3'
          have c3_2 := cell_later HB3.out.below HC3.out
          clear hn3' HB3' HB2 c3_1 hG3
          have HLL3 : Hid (L'.length ≤ k + 1) := by have := addL_len L bs; rw [HL'.out] at this; have := HLL.out; rw [Hid]; omega
          have HLL4 : Hid (L'.length ≤ 65535) := by have := HLL3.out; rw [Hid]; omega
          have HSELF := hide (fnd_add_self L bs)
          rw [HL'.out] at HSELF
          have HCNT := hide (cnt_of L bs)
          rw [HL'.out, HDI.out] at HCNT
          have HAD' : Hid (Had w (some ⟨b, off, none⟩) L' (k + 1)) := by
            intro j b' off' A3' n3' c3' bs' hj hA hq hs
            rcases Nat.lt_or_ge j k with h' | h'
            · rw [← HL'.out]; exact fnd_mono (HHAD.out j b' off' A3' n3' c3' bs' h' hA hq hs)
            · obtain rfl : j = k := by omega
              injection hA with hA
              injection hA with e1 e2
              subst e1; subst e2
              have e := HC3.out.symm.trans hq
              injection e with e
              injection e with e1 e2 e3
              subst e1; subst e2
              rw [← Sl.bytes_inj HS3.out hs]
              exact HSELF.out.2
          obtain ⟨o, HO⟩ : ∃ o, Hid (fnd L bs = o) := ⟨_, rfl⟩
          rw [HO.out]
          rw [HO.out] at HCNT
          generalize L.length = N at HCNT ⊢
          obtain ⟨M, HM⟩ : ∃ M, Hid (L'.length = M) := ⟨_, rfl⟩
          rw [HM.out] at HCNT
          have CC := hide (book_Count _ HB3.out.bk)
          rw [HM.out] at CC
          have hM0 : (0 : Int) ≤ idx := by omega
          clear HO HHAD HLL HLL2
          cases o with
          | some i =>
            obtain rfl : M = N := HCNT.out
            simp only [fndE, fndN]
            have hMM : ((M : Int) != (M : Int)) = false := by simp
            go_wp2_with (first | (go_at_call 17; refine (law5_num _ _).mono ?_; rintro e w' ⟨rfl, rfl⟩) | (go_at_call 23; refine CC.out.mono ?_; rintro e w' ⟨rfl, rfl⟩))
            refine (book_Bytes_some idx _ HB3.out.bk HAT).mono ?_
            rintro e w4 ⟨v4, rfl, own4, hb4⟩
            obtain ⟨A4, c4, rfl⟩ := own_slice own4
            have HB4 := hide (HB3.out.step hb4)
            have HO4 := hide own4
            have HBL := hide HS3.out.blen
            have HNG := hide (notG_own own4 HB3.out.bk.lt)
            have c3_3 := cell_later HB4.out.below HC3.out
            have HD2 : Hid (digN L' bs = (idx : Int) + 1) := by rw [Hid, (addL_self HSELF.out.2).2, HSELF.out.1, HDI.out]
            have HL2 : Hid (addL L' bs = L') := (addL_self HSELF.out.2).1
            have HF2 : Hid (fndN (fnd L' bs) = (idx : Int) + 1 ∧ fndE (fnd L' bs) = 0) := ⟨by rw [HSELF.out.1, HDI.out], fndN_some HSELF.out.2⟩
            have HBL2 : Hid (bs.length ≤ 1048576) := by have h1 := HL3.out; have h2 := HBL.out; rw [Hid]; omega
            clear hb4 own4 c3_2 CC
            go_wp2_with fail
            refine (book_Digest (x := bs) _ HB4.out.bk (Sl.of_own HO4.out) HBL2 HLL4 HNG HD2 HL2).mono ?_
            rintro e w5 ⟨rfl, hn5⟩
            have S5 := hide ((Sl.of_own HO4.out).chg hn5.chg HNG.out)
            obtain ⟨G5, HB5', -⟩ := HB4.out.next hn5
            have HB5 := hide HB5'
            have c3_4 := cell_later HB5.out.below HC3.out
            clear hn5 HB5' c3_3 HO4 HNG HB4 HB3
            go_wp2_with fail
            refine (book_Find _ HB5.out.bk S5.out (by have := HBL2.out; omega)).mono ?_
            rintro e w' ⟨rfl, q5, rfl⟩
            rw [HF2.out.1, HF2.out.2]
            have HB6 := hide (HB5.out.drewN q5)
            have S6 := hide (S5.out.drewN q5)
            have c3_5 := cell_later HB6.out.below HC3.out
            clear HB5 S5 c3_4
            generalize w5.drewN q5 = w6 at HB6 S6 c3_5 ⊢
            have hII : ((idx : Int) + 1 != (idx : Int) + 1) = false := by simp
            generalize bs.length = n4 at S6 HBL2 ⊢
            go_wp2_with (first | (go_at_call 17; refine (law5_num _ _).mono ?_; rintro e w' ⟨rfl, rfl⟩) | (go_at_call 26; refine (eqBytes_b _ S6.out (by have := HBL2.out; omega) (HS3.out.below HB6.out.below) (by have := HL3.out; omega) (beq_self bs)).mono ?_; rintro e w7 ⟨rfl, hb7⟩))
            have HB7 := hide (HB6.out.step hb7)
            clear HB6 S6 c3_5 hb7 HAT HDI HCNT
            go_loopw [16] (fun i wr => ∃ m : Nat, m ≤ k ∧ i = .int .i64 m ∧ Hid (BkW w G5 wr g L' (fun _ => false))) (fun i _ => k - (intOf i).toNat)
            case atStart => exact ⟨0, Nat.zero_le _, rfl, HB7⟩
            case round =>
              clear HB7
              obtain ⟨m, hmk, rfl, HB7⟩ := hrel
              obtain ⟨wp, rfl⟩ : ∃ wp : World, wp = wr := ⟨_, rfl⟩
              by_cases hlm : m < k
              · obtain ⟨b', off', hA', hc'⟩ := HACT.out.2 (by omega)
                obtain ⟨x', y', z', A5, n5, c5, bs5, -, -, -, q5', -, -, -, hs5, hn5, -, -⟩ := hc' m (by omega)
                injection hA' with hA'
                injection hA' with e1 e2
                subst e1; subst e2
                have HC5 := hide q5'
                have HS5 := hide hs5
                have HSM := hide (HAD'.out m b off A5 n5 c5 bs5 (by omega) rfl q5' hs5)
                obtain ⟨p, HP⟩ : ∃ p, Hid ((bs5 == bs) = p) := ⟨_, rfl⟩
                have HEQ : Hid ((fndN (fnd L' bs5) == (idx : Int) + 1) = p) := by rw [Hid, ← HP.out, ← HF2.out.1]; exact fndN_inj HSM.out HSELF.out.2
                have HE5 := hide (fndN_some HSM.out)
                have HN5 : Hid (n5 ≤ 9223372036854775807) := by rw [Hid]; omega
                have c5_0 := cell_later HB7.out.below HC5.out
                clear q5' hs5 hc' hn5
                go_wp2_with fail
                refine (book_Find _ HB7.out.bk (HS5.out.below HB7.out.below) HN5.out).mono ?_
                rintro e w' ⟨rfl, q6, rfl⟩
                rw [HE5.out]
                have hEQ := HEQ.out
                generalize fndN (fnd L' bs5) = cN at hEQ ⊢
                have HB8 := hide (HB7.out.drewN q6)
                have c5_1 := cell_later HB8.out.below HC5.out
                have c3_6 := cell_later HB8.out.below HC3.out
                clear HB7 c5_0
                generalize wp.drewN q6 = w8 at HB8 c5_1 c3_6 ⊢
                go_wp2_with fail
                cases p
                all_goals
                  go_quiet ((first | (go_at_call 17; exact quiet_left (law5_num _ _)) | (go_at_call 26; exact quiet_one (eq_by HP.out (ref0_EqBytes _ _ _ _ _ _ _ _ _ ((HS5.out.below HB8.out.below).drewN _) HN5.out ((HS3.out.below HB8.out.below).drewN _) (by have := HL3.out; omega))))))
                  have HB9 := hide (HB8.out.drewN nq)
                  go_wp2_with fail
                  go_roundw
                  case rel => exact ⟨m + 1, by omega, by go_num, HB9⟩
                  case measure => simp [intOf]; omega
              · obtain rfl : m = k := by omega
                go_wp2_with fail
                go_roundw
                case rel => exact ⟨m + 1, G5, L', by omega, by omega, by go_num, HB7, HLL3, HAD'⟩
                case measure => simp [intOf]; omega
          | none =>
            obtain ⟨hq, rfl⟩ := HCNT.out
            obtain rfl : idx = N := by omega
            simp only [fndE, fndN]
            have hMM : ((idx : Int) + 1 != (idx : Int) + 1) = false := by simp
            have hMM2 : (((idx + 1 : Nat) : Int) != (idx : Int) + 1) = false := by simp
            have hNb : (idx : Int) + 1 ≤ 9223372036854775807 := by have h1 := HM.out; have h2 := HLL3.out; omega
            go_wp2_with (first | (go_at_call 17; refine (law5_num _ _).mono ?_; rintro e w' ⟨rfl, rfl⟩) | (go_at_call 23; refine CC.out.mono ?_; rintro e w' ⟨rfl, rfl⟩))
            refine (book_Bytes_some idx _ HB3.out.bk HAT).mono ?_
            rintro e w4 ⟨v4, rfl, own4, hb4⟩
            obtain ⟨A4, c4, rfl⟩ := own_slice own4
            have HB4 := hide (HB3.out.step hb4)
            have HO4 := hide own4
            have HBL := hide HS3.out.blen
            have HNG := hide (notG_own own4 HB3.out.bk.lt)
            have c3_3 := cell_later HB4.out.below HC3.out
            have HD2 : Hid (digN L' bs = (idx : Int) + 1) := by rw [Hid, (addL_self HSELF.out.2).2, HSELF.out.1, HDI.out]
            have HL2 : Hid (addL L' bs = L') := (addL_self HSELF.out.2).1
            have HF2 : Hid (fndN (fnd L' bs) = (idx : Int) + 1 ∧ fndE (fnd L' bs) = 0) := ⟨by rw [HSELF.out.1, HDI.out], fndN_some HSELF.out.2⟩
            have HBL2 : Hid (bs.length ≤ 1048576) := by have h1 := HL3.out; have h2 := HBL.out; rw [Hid]; omega
            clear hb4 own4 c3_2 CC
            go_wp2_with fail
            refine (book_Digest (x := bs) _ HB4.out.bk (Sl.of_own HO4.out) HBL2 HLL4 HNG HD2 HL2).mono ?_
            rintro e w5 ⟨rfl, hn5⟩
            have S5 := hide ((Sl.of_own HO4.out).chg hn5.chg HNG.out)
            obtain ⟨G5, HB5', -⟩ := HB4.out.next hn5
            have HB5 := hide HB5'
            have c3_4 := cell_later HB5.out.below HC3.out
            clear hn5 HB5' c3_3 HO4 HNG HB4 HB3
            go_wp2_with fail
            refine (book_Find _ HB5.out.bk S5.out (by have := HBL2.out; omega)).mono ?_
            rintro e w' ⟨rfl, q5, rfl⟩
            rw [HF2.out.1, HF2.out.2]
            have HB6 := hide (HB5.out.drewN q5)
            have S6 := hide (S5.out.drewN q5)
            have c3_5 := cell_later HB6.out.below HC3.out
            clear HB5 S5 c3_4
            generalize w5.drewN q5 = w6 at HB6 S6 c3_5 ⊢
            have hII : ((idx : Int) + 1 != (idx : Int) + 1) = false := by simp
            generalize bs.length = n4 at S6 HBL2 ⊢
            go_wp2_with (first | (go_at_call 17; refine (law5_num _ _).mono ?_; rintro e w' ⟨rfl, rfl⟩) | (go_at_call 26; refine (eqBytes_b _ S6.out (by have := HBL2.out; omega) (HS3.out.below HB6.out.below) (by have := HL3.out; omega) (beq_self bs)).mono ?_; rintro e w7 ⟨rfl, hb7⟩))
            have HB7 := hide (HB6.out.step hb7)
            clear HB6 S6 c3_5 hb7 HAT HDI HCNT
            go_loopw [16] (fun i wr => ∃ m : Nat, m ≤ k ∧ i = .int .i64 m ∧ Hid (BkW w G5 wr g L' (fun _ => false))) (fun i _ => k - (intOf i).toNat)
            case atStart => exact ⟨0, Nat.zero_le _, rfl, HB7⟩
            case round =>
              clear HB7
              obtain ⟨m, hmk, rfl, HB7⟩ := hrel
              obtain ⟨wp, rfl⟩ : ∃ wp : World, wp = wr := ⟨_, rfl⟩
              by_cases hlm : m < k
              · obtain ⟨b', off', hA', hc'⟩ := HACT.out.2 (by omega)
                obtain ⟨x', y', z', A5, n5, c5, bs5, -, -, -, q5', -, -, -, hs5, hn5, -, -⟩ := hc' m (by omega)
                injection hA' with hA'
                injection hA' with e1 e2
                subst e1; subst e2
                have HC5 := hide q5'
                have HS5 := hide hs5
                have HSM := hide (HAD'.out m b off A5 n5 c5 bs5 (by omega) rfl q5' hs5)
                obtain ⟨p, HP⟩ : ∃ p, Hid ((bs5 == bs) = p) := ⟨_, rfl⟩
                have HEQ : Hid ((fndN (fnd L' bs5) == (idx : Int) + 1) = p) := by rw [Hid, ← HP.out, ← HF2.out.1]; exact fndN_inj HSM.out HSELF.out.2
                have HE5 := hide (fndN_some HSM.out)
                have HN5 : Hid (n5 ≤ 9223372036854775807) := by rw [Hid]; omega
                have c5_0 := cell_later HB7.out.below HC5.out
                clear q5' hs5 hc' hn5
                go_wp2_with fail
                refine (book_Find _ HB7.out.bk (HS5.out.below HB7.out.below) HN5.out).mono ?_
                rintro e w' ⟨rfl, q6, rfl⟩
                rw [HE5.out]
                have hEQ := HEQ.out
                generalize fndN (fnd L' bs5) = cN at hEQ ⊢
                have HB8 := hide (HB7.out.drewN q6)
                have c5_1 := cell_later HB8.out.below HC5.out
                have c3_6 := cell_later HB8.out.below HC3.out
                clear HB7 c5_0
                generalize wp.drewN q6 = w8 at HB8 c5_1 c3_6 ⊢
                go_wp2_with fail
                cases p
                all_goals
                  go_quiet ((first | (go_at_call 17; exact quiet_left (law5_num _ _)) | (go_at_call 26; exact quiet_one (eq_by HP.out (ref0_EqBytes _ _ _ _ _ _ _ _ _ ((HS5.out.below HB8.out.below).drewN _) HN5.out ((HS3.out.below HB8.out.below).drewN _) (by have := HL3.out; omega))))))
                  have HB9 := hide (HB8.out.drewN nq)
                  go_wp2_with fail
                  go_roundw
                  case rel => exact ⟨m + 1, by omega, by go_num, HB9⟩
                  case measure => simp [intOf]; omega
              · obtain rfl : m = k := by omega
                go_wp2_with fail
                go_roundw
                case rel => exact ⟨m + 1, G5, L', by omega, by omega, by go_num, HB7, HLL3, HAD'⟩
                case measure => simp [intOf]; omega
        · have hd40 : decide ((k : Int) < 40) = false := by simp; omega
          go_wp2_with fail
          refine (law5_wakes _).mono ?_
          rintro e w2 ⟨rfl, hb2⟩
          have HBB := hide (below_then HBW.out.below hb2)
          clear hb2
          go_wp2_with fail
          go_ret
          exact ⟨rfl, HBB.out⟩
      · obtain rfl : k = n := by omega
        go_wp2_with fail
        all_goals
          refine (law5_wakes _).mono ?_
          rintro e w2 ⟨rfl, hb2⟩
          have HBB := hide (below_then HBW.out.below hb2)
          clear hb2
          go_wp2_with fail
          go_ret
          exact ⟨rfl, HBB.out⟩
end Go.Proofs.Ytflamhndmggiaaa
