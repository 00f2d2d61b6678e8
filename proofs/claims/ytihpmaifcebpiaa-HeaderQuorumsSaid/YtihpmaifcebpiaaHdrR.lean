/-
  Contracts: which headers and certificates may be: the reference's.
-/
import Derived.Test.YtihpmaifcebpiaaHdrO
import Derived.Deep.DrawnRows
namespace Go.Proofs.Ytihpmaifcebpiaa
open Go.RowKit

set_option maxHeartbeats 400000 in
theorem ref2_May (n : Int) (w : World) : Calls Try.prog 75 #[.int .i64 n] w fun e w' => e = .returned (.bool (isC n)) ∧ w = w' := by
  go_enter Try.func75, Try.ntmps75
  go_wp2
  all_goals go_ret
  all_goals exact ⟨ret_bool (by rw [Bool.eq_iff_iff]; simp [isC]; try omega), rfl⟩
set_option maxHeartbeats 400000 in
theorem ref2_Quorum (n : Int) (w : World) (h1 : 1 ≤ n) (h2 : n ≤ 16) : Calls Try.prog 76 #[.int .i64 n] w fun e w' => e = .returned (.int .i64 (qC n)) ∧ w = w' := by
  have HQ : Hid (qC n = 2 * (n / 3) + 1) := by unfold Hid qC; rfl
  go_enter Try.func76, Try.ntmps76
  go_wp2
  all_goals go_ret
  all_goals exact ⟨ret_int HQ.out.symm, rfl⟩
set_option maxHeartbeats 400000 in
theorem ref0_Digest (n : Int) (w : World) : Calls Try.prog 77 #[.int .i64 n] w fun e w' => e = .returned (.bool (digO n)) ∧ w = w' := by
  go_enter Try.func77, Try.ntmps77
  go_wp2
  all_goals go_ret
  all_goals exact ⟨ret_bool (by rw [Bool.eq_iff_iff]; simp [digO]; try omega), rfl⟩
set_option maxRecDepth 100000 in
set_option maxHeartbeats 1000000 in
theorem ref0_Between {A : Option Addr} {n c : Nat} {l : List Int} (lo hi : Int) (w : World) (hs : Sl w 1 A n (ints l)) (hn : n ≤ 9223372036854775807) {r : Bool} (hr : Hid (betw lo hi l = r)) :
    Calls Try.prog 79 #[.slice A n c, .int .i64 lo, .int .i64 hi] w fun e w' => e = .returned (.bool r) ∧ w = w' := by
  have HL := hide hs.ilen
  go_enter Try.func79, Try.ntmps79
  go_wp2_with fail
  go_loop [7] (fun i => ∃ k : Nat, k ≤ n ∧ i = .int .i64 k ∧ Hid (∀ x ∈ l.take k, lo ≤ x ∧ x ≤ hi)) (fun i => n - (intOf i).toNat)
  case atStart => exact ⟨0, Nat.zero_le _, rfl, by simp [Hid]⟩
  case round =>
    obtain ⟨k, hk, rfl, HT⟩ := hrel
    by_cases hlt : k < n
    · obtain ⟨b, off, u, rfl, HU, hc, _⟩ := hs.int hlt
      clear hs
      by_cases h1 : lo ≤ u
      · by_cases h2 : u ≤ hi
        · have HT2 : Hid (∀ x ∈ l.take (k + 1), lo ≤ x ∧ x ≤ hi) := by
            intro x hx
            rw [take_at HU.out, List.mem_append] at hx
            rcases hx with hx | hx
            · exact HT.out x hx
            · simp at hx; subst hx; exact ⟨h1, h2⟩
          go_wp2_with fail
          go_round
          case rel => exact ⟨k + 1, by omega, by go_num, HT2⟩
          case measure => simp [intOf]; omega
        · have HR : Hid (r = false) := by rw [Hid, ← hr.out]; exact betw_bad HU.out (by omega)
          go_wp2_with fail
          go_ret
          exact ⟨ret_bool HR.out.symm, rfl⟩
      · have HR : Hid (r = false) := by rw [Hid, ← hr.out]; exact betw_bad HU.out (by omega)
        go_wp2_with fail
        go_ret
        exact ⟨ret_bool HR.out.symm, rfl⟩
    · obtain rfl : k = n := by omega
      have HR : Hid (r = true) := by
        have h1 := HT.out
        rw [List.take_of_length_le (by rw [HL.out]; exact Nat.le_refl _)] at h1
        rw [Hid, ← hr.out, betw_iff]; exact h1
      go_wp2_with fail
      go_ret
      exact ⟨ret_bool HR.out.symm, rfl⟩
set_option maxRecDepth 100000 in
set_option maxHeartbeats 1000000 in
theorem ref0_Rising {A : Option Addr} {n c : Nat} {l : List Int} (w : World) (hs : Sl w 1 A n (ints l)) (hn : n ≤ 9223372036854775807) {r : Bool} (hr : Hid (sortedI l = r)) :
    Calls Try.prog 78 #[.slice A n c] w fun e w' => e = .returned (.bool r) ∧ ∃ q, w' = w.drewN q := by
  have HL := hide hs.ilen
  go_enter Try.func78, Try.ntmps78
  go_wp2_with fail
  go_loopw [3] (fun i wr => ∃ (k q : Nat), (k + 1 ≤ n ∨ k = 0) ∧ i = .int .i64 ((k : Int) + 1) ∧ Hid (sortedI (l.take (k + 1)) = true) ∧ wr = w.drewN q) (fun i _ => n - (intOf i).toNat)
  case atStart => exact ⟨0, 0, Or.inr rfl, by simp, sortedI_one l, rfl⟩
  case round =>
    obtain ⟨k, q, hk, rfl, HS, rfl⟩ := hrel
    by_cases hlt : k + 1 < n
    · obtain ⟨b, off, u, rfl, HU, hc, _⟩ := hs.int hlt
      obtain ⟨b', off', y, e, HY, hy, _⟩ := hs.int (k := k) (by omega)
      injection e with e
      injection e with e1 e2
      subst e1; subst e2
      have hi0 : (0 : Int) ≤ (k : Int) + 1 := by omega
      have hi1 : (k : Int) + 1 < (n : Int) := by omega
      have hi2 : (0 : Int) ≤ (k : Int) := by omega
      have hi3 : (k : Int) < (n : Int) := by omega
      have ht1 : ((k : Int) + 1).toNat = k + 1 := by omega
      clear hs hk
      by_cases hyu : y < u
      · have HS2 : Hid (sortedI (l.take (k + 2)) = true) := sortedI_next HY.out HU.out HS.out hyu
        go_wp2_with fail
        go_quiet (fail)
        go_wp2_with fail
        go_roundw
        case rel => exact ⟨k + 1, q + nq, by omega, by go_num, HS2, rfl⟩
        case measure => simp [intOf]; omega
      · have HR : Hid (r = false) := by rw [Hid, ← hr.out]; exact sortedI_bad HY.out HU.out hyu
        go_wp2_with fail
        go_quiet (fail)
        go_wp2_with fail
        go_ret
        exact ⟨ret_bool HR.out.symm, q + nq, World.drewN_drewN w q nq⟩
    · have HR : Hid (r = true) := by
        have h2 := HS.out
        rw [List.take_of_length_le (by rw [HL.out]; omega)] at h2
        rw [Hid, ← hr.out]; exact h2
      clear hs
      go_wp2_with fail
      go_ret
      exact ⟨ret_bool HR.out.symm, q, rfl⟩
set_option maxHeartbeats 400000 in
theorem ref0_Digests {A : Option Addr} {n c : Nat} {l : List Int} (w : World) (hs : Sl w 1 A n (ints l)) (hn : n ≤ 9223372036854775807) {r : Bool} (hr : Hid (betw 1 65536 l = r)) :
    Calls Try.prog 91 #[.slice A n c] w fun e w' => e = .returned (.bool r) ∧ w = w' := by
  go_enter Try.func91, Try.ntmps91
  go_wp2_with (go_at_call 79; refine (ref0_Between 1 65536 _ hs hn hr).mono ?_; rintro e w' ⟨rfl, rfl⟩)
  go_ret
  exact ⟨rfl, rfl⟩
set_option maxRecDepth 100000 in
set_option maxHeartbeats 1000000 in
theorem ref4_digests {A : Option Addr} {n c : Nat} {l : List Int} (m : Int) (w : World) (hs : Sl w 1 A n (ints l)) (hn : n ≤ 9223372036854775807) {r : Bool} (hr : Hid ((decide ((l.length : Int) ≤ m) && digs l) = r)) :
    Calls Try.prog 63 #[.slice A n c, .int .i64 m] w fun e w' => e = .returned (.bool r) ∧ ∃ q, w' = w.drewN q := by
  obtain ⟨x, HX⟩ : ∃ p, Hid (betw 1 65536 l = p) := ⟨_, rfl⟩
  obtain ⟨y, HY⟩ : ∃ p, Hid (sortedI l = p) := ⟨_, rfl⟩
  have HR : Hid (r = (decide ((n : Int) ≤ m) && (x && y))) := by rw [Hid, ← hr.out, hs.ilen, digs, rises, HX.out, HY.out]
  have HC := hide (ref0_Rising (c := c) w hs hn HY)
  have HD := hide (ref0_Digests (c := c) w hs hn HX)
  clear hs hr
  by_cases h1 : (n : Int) ≤ m
  · cases x with
    | true =>
      go_enter Try.func63, Try.ntmps63
      go_wp2_with fail
      refine HD.out.mono ?_
      rintro e w' ⟨rfl, rfl⟩
      go_wp2_with fail
      refine HC.out.mono ?_
      rintro e w' ⟨rfl, q, rfl⟩
      go_wp2_with fail
      go_ret
      exact ⟨ret_bool (by rw [HR.out]; simp [h1]), q, rfl⟩
    | false =>
      go_enter Try.func63, Try.ntmps63
      go_wp2_with fail
      refine HD.out.mono ?_
      rintro e w' ⟨rfl, rfl⟩
      go_wp2_with fail
      go_ret
      exact ⟨ret_bool (by rw [HR.out]; simp), 0, rfl⟩
  · go_enter Try.func63, Try.ntmps63
    go_wp2_with fail
    go_ret
    exact ⟨ret_bool (by rw [HR.out]; simp; omega), 0, rfl⟩
set_option maxRecDepth 100000 in
set_option maxHeartbeats 2000000 in
theorem ref4_Wide {A1 A2 : Option Addr} {n1 c1 n2 c2 : Nat} (x : HdD) (w : World) (hs : Sl w 1 A1 n1 (ints x.bs)) (ht : Sl w 1 A2 n2 (ints x.ps)) (hn1 : n1 ≤ 9223372036854775807) (hn2 : n2 ≤ 9223372036854775807) {r : Bool} (hr : Hid (formH 16 x = r)) :
    Calls Try.prog 29 #[hdV x.a x.r A1 n1 c1 A2 n2 c2] w fun e w' => e = .returned (.bool r) ∧ Below w.heap.size w w' := by
  have HL2 := hide ht.ilen
  have s1 := hs.alloc (.cells #[.int .i64 x.a, .int .i64 x.r, .slice A1 n1 c1, .slice A2 n2 c2] 49)
  have t1 := ht.alloc (.cells #[.int .i64 x.a, .int .i64 x.r, .slice A1 n1 c1, .slice A2 n2 c2] 49)
  have HB := hide (below_alloc' w (.cells #[.int .i64 x.a, .int .i64 x.r, .slice A1 n1 c1, .slice A2 n2 c2] 49))
  obtain ⟨a, ra, bs, ps⟩ := x
  simp only at HL2 s1 t1 HB ⊢
  obtain ⟨p, HP⟩ : ∃ p, Hid ((decide ((bs.length : Int) ≤ 8) && digs bs) = p) := ⟨_, rfl⟩
  obtain ⟨q, HQ⟩ : ∃ p, Hid ((decide ((ps.length : Int) ≤ 16) && digs ps) = p) := ⟨_, rfl⟩
  have HALL : Hid (r = true ↔ (1 ≤ a ∧ a ≤ 16) ∧ (1 ≤ ra ∧ ra ≤ 1099511627776) ∧ p = true ∧ q = true ∧ (1 < ra ∨ n2 = 0)) := by
    rw [Hid, ← hr.out, formH_iff, ← HP.out, ← HQ.out, ← HL2.out]
    simp only [Bool.and_eq_true, decide_eq_true_eq]
    constructor
    · rintro ⟨h1, h2, h3, h4, h5, h6, h7⟩; exact ⟨h1, h2, ⟨by omega, h4⟩, ⟨h6, h5⟩, h7⟩
    · rintro ⟨h1, h2, ⟨h3, h4⟩, ⟨h6, h5⟩, h7⟩; exact ⟨h1, h2, by omega, h4, h5, h6, h7⟩
  have C1 := hide (ref4_digests (c := c1) 8 _ s1 hn1 HP)
  have C2 : Hid (∀ k, Calls Try.prog 63 #[.slice A2 n2 c2, .int .i64 16] ((w.alloc (.cells #[.int .i64 a, .int .i64 ra, .slice A1 n1 c1, .slice A2 n2 c2] 49)).drewN k) fun e w' => e = .returned (.bool q) ∧ ∃ q, w' = ((w.alloc (.cells #[.int .i64 a, .int .i64 ra, .slice A1 n1 c1, .slice A2 n2 c2] 49)).drewN k).drewN q) := fun k => ref4_digests 16 _ (t1.drewN k) hn2 HQ
  clear hs ht hr s1 t1 HP HQ HL2
  unfold hdV
  go_enter Try.func29, Try.ntmps29
  go_wp2_with (first
    | (go_at_call 63; ((with_reducible refine C1.out.mono ?_); rintro e w' ⟨rfl, q1, rfl⟩))
    | (go_at_call 63; ((with_reducible refine (C2.out _).mono ?_); rintro e w' ⟨rfl, q2, rfl⟩)))
  all_goals
    go_ret
    refine ⟨ret_bool ?_, by first | exact HB.out | exact below_drewN HB.out _ | exact below_drewN (below_drewN HB.out _) _⟩
    rw [Bool.eq_iff_iff, HALL.out]
    first
      | (simp [*]; done)
      | (simp [*]; omega)
      | omega
set_option maxRecDepth 100000 in
set_option maxHeartbeats 2000000 in
theorem ref4_Header {A1 A2 : Option Addr} {n1 c1 n2 c2 : Nat} (n : Int) (x : HdD) (w : World) (hs : Sl w 1 A1 n1 (ints x.bs)) (ht : Sl w 1 A2 n2 (ints x.ps)) (hn1 : n1 ≤ 9223372036854775807) (hn2 : n2 ≤ 9223372036854775807) {r : Bool} (hr : Hid (mayH n x = r)) :
    Calls Try.prog 44 #[hdV x.a x.r A1 n1 c1 A2 n2 c2, .int .i64 n] w fun e w' => e = .returned (.bool r) ∧ Below w.heap.size w w' := by
  have HL2 := hide ht.ilen
  have s1 := hs.alloc (.cells #[.int .i64 x.a, .int .i64 x.r, .slice A1 n1 c1, .slice A2 n2 c2] 49)
  have t1 := ht.alloc (.cells #[.int .i64 x.a, .int .i64 x.r, .slice A1 n1 c1, .slice A2 n2 c2] 49)
  have HB := hide (below_alloc' w (.cells #[.int .i64 x.a, .int .i64 x.r, .slice A1 n1 c1, .slice A2 n2 c2] 49))
  obtain ⟨a, ra, bs, ps⟩ := x
  simp only at HL2 s1 t1 HB ⊢
  obtain ⟨p, HP⟩ : ∃ p, Hid ((decide ((bs.length : Int) ≤ 8) && digs bs) = p) := ⟨_, rfl⟩
  obtain ⟨q, HQ⟩ : ∃ p, Hid ((decide ((ps.length : Int) ≤ n) && digs ps) = p) := ⟨_, rfl⟩
  obtain ⟨c, HC⟩ : ∃ p, Hid (isC n = p) := ⟨_, rfl⟩
  obtain ⟨k, HK⟩ : ∃ p, Hid (qC n = p) := ⟨_, rfl⟩
  have HALL : Hid (r = true ↔ c = true ∧ (1 ≤ a ∧ a ≤ n) ∧ (1 ≤ ra ∧ ra ≤ 1099511627776) ∧ p = true ∧ q = true ∧ (ra = 1 → n2 = 0) ∧ (ra ≠ 1 → k ≤ (n2 : Int))) := by
    rw [Hid, ← hr.out, mayH_iff, formH_iff, ← HP.out, ← HQ.out, ← HL2.out, ← HC.out, ← HK.out]
    simp only [Bool.and_eq_true, decide_eq_true_eq]
    constructor
    · rintro ⟨h0, ⟨h1, h2, h3, h4, h5, h6, h7⟩, h8⟩; exact ⟨h0, h1, h2, ⟨by omega, h4⟩, ⟨h6, h5⟩, by omega, by omega⟩
    · rintro ⟨h0, h1, h2, ⟨h3, h4⟩, ⟨h6, h5⟩, h7, h8⟩; exact ⟨h0, ⟨h1, h2, by omega, h4, h5, h6, by omega⟩, by omega⟩
  have C1 := hide (ref4_digests (c := c1) 8 _ s1 hn1 HP)
  have C2 : Hid (∀ k, Calls Try.prog 63 #[.slice A2 n2 c2, .int .i64 n] ((w.alloc (.cells #[.int .i64 a, .int .i64 ra, .slice A1 n1 c1, .slice A2 n2 c2] 49)).drewN k) fun e w' => e = .returned (.bool q) ∧ ∃ q, w' = ((w.alloc (.cells #[.int .i64 a, .int .i64 ra, .slice A1 n1 c1, .slice A2 n2 c2] 49)).drewN k).drewN q) := fun k => ref4_digests n _ (t1.drewN k) hn2 HQ
  have CM := hide (fun w => ref2_May n w)
  rw [HC.out] at CM
  cases c with
  | false =>
    clear hs ht hr s1 t1 HP HQ HL2 HC HK C1 C2
    unfold hdV
    go_enter Try.func44, Try.ntmps44
    go_wp2_with (go_at_call 75; refine (CM.out _).mono ?_; rintro e w' ⟨rfl, rfl⟩)
    go_ret
    refine ⟨ret_bool ?_, HB.out⟩
    rw [Bool.eq_iff_iff, HALL.out]
    simp
  | true =>
    obtain ⟨g1, g2, _⟩ := isC_iff.1 HC.out
    have CQ := hide (fun w => ref2_Quorum n w g1 g2)
    rw [HK.out] at CQ
    clear hs ht hr s1 t1 HP HQ HL2 HC HK
    unfold hdV
    by_cases hb : (1 ≤ a ∧ a ≤ n) ∧ (1 ≤ ra ∧ ra ≤ 1099511627776) ∧ p = true
    case neg =>
      have HR : Hid (r = false) := by
        rw [Hid, Bool.eq_false_iff, Ne, HALL.out]
        rintro ⟨_, h1, h2, h3, _⟩
        exact hb ⟨h1, h2, h3⟩
      clear HALL
      cases p
      all_goals
        simp at hb
        go_enter Try.func44, Try.ntmps44
        go_wp2_with (first
          | (go_at_call 75; refine (CM.out _).mono ?_; rintro e w' ⟨rfl, rfl⟩)
          | (go_at_call 63; ((with_reducible refine C1.out.mono ?_); rintro e w' ⟨rfl, q1, rfl⟩)))
        all_goals first
          | (exfalso; omega)
          | (go_ret
             exact ⟨ret_bool HR.out.symm, by first | exact HB.out | exact below_drewN HB.out _⟩)
    case pos =>
      obtain ⟨⟨a1, a2⟩, ⟨b1, b2⟩, rfl⟩ := hb
      cases q with
      | false =>
        have HR : Hid (r = false) := by rw [Hid, Bool.eq_false_iff, Ne, HALL.out]; simp
        clear HALL
        go_enter Try.func44, Try.ntmps44
        go_wp2_with (first
          | (go_at_call 75; refine (CM.out _).mono ?_; rintro e w' ⟨rfl, rfl⟩)
          | (go_at_call 63; ((with_reducible refine C1.out.mono ?_); rintro e w' ⟨rfl, q1, rfl⟩))
          | (go_at_call 63; ((with_reducible refine (C2.out _).mono ?_); rintro e w' ⟨rfl, q2, rfl⟩)))
        go_ret
        exact ⟨ret_bool HR.out.symm, by first | exact below_drewN HB.out _ | exact below_drewN (below_drewN HB.out _) _⟩
      | true =>
        by_cases h1 : ra = 1
        · have HR : Hid (r = decide ((n2 : Int) = 0)) := by rw [Hid, Bool.eq_iff_iff, HALL.out]; simp [a1, a2, h1]
          have hra : (ra == 1) = true := by simpa using h1
          clear h1 HALL
          go_enter Try.func44, Try.ntmps44
          go_wp2_with (first
            | (go_at_call 75; refine (CM.out _).mono ?_; rintro e w' ⟨rfl, rfl⟩)
            | (go_at_call 63; ((with_reducible refine C1.out.mono ?_); rintro e w' ⟨rfl, q1, rfl⟩))
            | (go_at_call 63; ((with_reducible refine (C2.out _).mono ?_); rintro e w' ⟨rfl, q2, rfl⟩)))
          go_ret
          exact ⟨ret_bool (by rw [HR.out, Bool.eq_iff_iff]; simp), by first | exact below_drewN HB.out _ | exact below_drewN (below_drewN HB.out _) _⟩
        · have HR : Hid (r = decide (k ≤ (n2 : Int))) := by rw [Hid, Bool.eq_iff_iff, HALL.out]; simp [a1, a2, b1, b2, h1]
          have hra : (ra == 1) = false := by simpa using h1
          clear h1 HALL
          go_enter Try.func44, Try.ntmps44
          go_wp2_with (first
            | (go_at_call 75; refine (CM.out _).mono ?_; rintro e w' ⟨rfl, rfl⟩)
            | (go_at_call 63; ((with_reducible refine C1.out.mono ?_); rintro e w' ⟨rfl, q1, rfl⟩))
            | (go_at_call 63; ((with_reducible refine (C2.out _).mono ?_); rintro e w' ⟨rfl, q2, rfl⟩)))
          go_quiet ((go_at_call 76; exact quiet_add_left (CQ.out _)))
          go_wp2_with fail
          go_ret
          exact ⟨ret_bool HR.out.symm, by first | exact below_drewN HB.out _ | exact below_drewN (below_drewN HB.out _) _ | exact below_drewN (below_drewN (below_drewN HB.out _) _) _⟩
end Go.Proofs.Ytihpmaifcebpiaa
