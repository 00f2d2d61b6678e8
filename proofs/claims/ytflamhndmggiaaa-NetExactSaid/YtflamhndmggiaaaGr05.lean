/-
  Texts joined: words and contracts that later texts use; lemmas alone, no conditions of a statement.
-/
import Derived.Test.YtflamhndmggiaaaGr04
import Derived.Test.YtflamhndmggiaaaGr01
import Derived.StillTailTactics
import Derived.Test.YtflamhndmggiaaaGr03
set_option linter.unusedVariables false
set_option linter.unusedSimpArgs false
/-
  Contracts of the references' functions over lists of numbers: copies, comparisons.
-/
namespace Go.Proofs.Ytflamhndmggiaaa
open Go.RowKit

set_option maxHeartbeats 400000 in
theorem ref0_EqNumbers (A B : Option Addr) (n c m d : Nat) (xs ys : List Int) (w : World) (hs : Sl w 1 A n (ints xs)) (hn : n ≤ 9223372036854775807) (ht : Sl w 1 B m (ints ys)) (hm : m ≤ 9223372036854775807) :
    Calls Try.prog 65 #[.slice A n c, .slice B m d] w fun e w' => e = .returned (.bool (decide (xs = ys))) ∧ ∃ q, w' = w.drewN q := by
  have HL := hide hs.ilen
  have HM := hide ht.ilen
  by_cases hne : n = m
  · subst hne
    go_enter Try.func65, Try.ntmps65
    go_wp2_with fail
    go_loopw [5] (fun i wr => ∃ k : Nat, k ≤ n ∧ i = .int .i64 k ∧ xs.take k = ys.take k ∧ ∃ q, wr = w.drewN q) (fun i _ => n - (intOf i).toNat)
    case atStart => exact ⟨0, Nat.zero_le _, rfl, by simp, 0, rfl⟩
    case round =>
      obtain ⟨k, hk, rfl, hx, q, rfl⟩ := hrel
      have HX := hide hx
      clear hx
      by_cases hlt : k < n
      · obtain ⟨b, off, u, rfl, HU, hc, _⟩ := hs.int hlt
        obtain ⟨b', off', v, rfl, HV, hc', _⟩ := ht.int hlt
        clear hs ht
        go_wp2_with fail
        go_quiet (fail)
        by_cases he : u = v
        · subst he
          have hb : (u != u) = false := by simp
          go_wp2_with fail
          go_roundw
          case rel => exact ⟨k + 1, by omega, by go_num, by rw [take_at HU.out, take_at HV.out, HX.out], q + nq, rfl⟩
          case measure => simp [intOf]; omega
        · have hb : (u != v) = true := by simp [he]
          go_wp2_with fail
          go_ret
          refine ⟨ret_bool ?_, q + nq, World.drewN_drewN _ _ _⟩
          symm
          rw [decide_eq_false_iff_not]
          rintro rfl
          have e := HU.out.symm.trans HV.out
          injection e with e
          exact he e
      · obtain rfl : k = n := by omega
        go_wp2_with fail
        go_ret
        refine ⟨ret_bool ?_, q, rfl⟩
        have hx := HX.out
        rw [List.take_of_length_le (by rw [HL.out]; exact Nat.le_refl _), List.take_of_length_le (by rw [HM.out]; exact Nat.le_refl _)] at hx
        simp [hx]
  · have hne' : ((n : Int) != (m : Int)) = true := by simp; omega
    go_enter Try.func65, Try.ntmps65
    go_wp2_with fail
    go_ret
    refine ⟨ret_bool ?_, 0, rfl⟩
    symm
    rw [decide_eq_false_iff_not]
    intro e
    have h1 := HL.out
    have h2 := HM.out
    rw [e] at h1
    omega

set_option maxHeartbeats 400000 in
theorem ref0_CopyNumbers (A : Option Addr) (n c : Nat) (xs : List Int) (w : World) (hs : Sl w 1 A n (ints xs)) (hn : n ≤ 9223372036854775807) (hr : n * 8 ≤ 140737488355328) :
    Calls Try.prog 63 #[.slice A n c] w fun e w' => ∃ v, e = .returned v ∧ w'.ownsRow w.heap.size 3 1 v n (ints xs) ∧ Below w.heap.size w w' := by
  obtain ⟨i0, hi, hz0, hz1, hz2⟩ := info_parts Try.infoInt
  have HL := hide hs.ilen
  go_enter Try.func63, Try.ntmps63
  go_wp2_with fail
  go_loopw [3, 4] (fun v i wr => ∃ k : Nat, k ≤ n ∧ i = .int .i64 k ∧ wr.ownsRow w.heap.size 3 1 v k (ints (xs.take k)) ∧ Below w.heap.size w wr) (fun _ i _ => n - (intOf i).toNat)
  case atStart => exact ⟨0, Nat.zero_le _, rfl, World.ownsRow_nil _ _ _ _, Below.refl _ _⟩
  case round =>
    obtain ⟨k, hk, rfl, hown, hb⟩ := hrel
    by_cases hlt : k < n
    · obtain ⟨b, off, u, rfl, HU, hc, _⟩ := hs.int hlt
      have hc' := cell_later hb hc
      clear hc hs
      go_wp2_with (first
        | (at_builtin; refine wpList_append_own _ rfl _ _ 46 rfl w.heap.size 3 i0 (.int .i64 0) 1 8 Try.underlying46 hi hz0 hz1 hz2 rfl (by decide) _ _ _ rfl (hown.alloc _) ⟨wr.heap.size, 0, none⟩ 1 1 [.int .i64 u] rfl rfl ?c1 ?c2 ?c3 ?c4 ?c5 ?_))
      case c1 => exact news_one _ _ _
      case c2 => exact one_int _ _
      case c3 => unfold maxLen; omega
      case c4 => omega
      case c5 => have := hb.size; simp; omega
      intro v' w1 hown' hg _
      have HO : ints (List.take (k + 1) xs) = ints (List.take k xs) ++ [.int .i64 u] := by rw [take_at HU.out]; simp [ints]
      have hown2 := HO ▸ hown'
      have hb2 : Below w.heap.size w w1 := (hb.alloc hb.size _).grown hg (by simp; have := hb.size; omega) (fun g hg' => (hown.lt g hg').1)
      clear HO hown' hg hown hb hc'
      go_wp2_with fail
      go_roundw
      case rel => exact ⟨k + 1, by omega, by go_num, hown2, hb2⟩
      case measure => simp [intOf]; omega
    · obtain rfl : k = n := by omega
      have hown2 : wr.ownsRow w.heap.size 3 1 u3 k (ints xs) := by rw [List.take_of_length_le (by rw [HL.out]; exact Nat.le_refl _)] at hown; exact hown
      clear hown
      go_wp2_with fail
      go_ret
      exact ⟨_, rfl, hown2, hb⟩
end Go.Proofs.Ytflamhndmggiaaa
/-
  Contracts of the references' functions over lists of bytes: copies, comparisons.
-/
namespace Go.Proofs.Ytflamhndmggiaaa
open Go.RowKit

set_option maxHeartbeats 400000 in
theorem ref0_EqBytes (A B : Option Addr) (n c m d : Nat) (xs ys : List UInt8) (w : World) (hs : Sl w 1 A n (bytes8 xs)) (hn : n ≤ 9223372036854775807) (ht : Sl w 1 B m (bytes8 ys)) (hm : m ≤ 9223372036854775807) :
    Calls Try.prog 26 #[.slice A n c, .slice B m d] w fun e w' => e = .returned (.bool (xs == ys)) ∧ ∃ q, w' = w.drewN q := by
  have HL := hide hs.blen
  have HM := hide ht.blen
  by_cases hne : n = m
  · subst hne
    go_enter Try.func26, Try.ntmps26
    go_wp2_with fail
    go_loopw [5] (fun i wr => ∃ k : Nat, k ≤ n ∧ i = .int .i64 k ∧ xs.take k = ys.take k ∧ ∃ q, wr = w.drewN q) (fun i _ => n - (intOf i).toNat)
    case atStart => exact ⟨0, Nat.zero_le _, rfl, by simp, 0, rfl⟩
    case round =>
      obtain ⟨k, hk, rfl, hx, q, rfl⟩ := hrel
      have HX := hide hx
      clear hx
      by_cases hlt : k < n
      · obtain ⟨b, off, u, rfl, HU, hc, _⟩ := hs.byte hlt
        obtain ⟨b', off', v, rfl, HV, hc', _⟩ := ht.byte hlt
        clear hs ht
        go_wp2_with fail
        go_quiet (fail)
        by_cases he : u = v
        · subst he
          have hb : ((u.toNat : Int) != (u.toNat : Int)) = false := by simp
          go_wp2_with fail
          go_roundw
          case rel => exact ⟨k + 1, by omega, by go_num, by rw [take_at HU.out, take_at HV.out, HX.out], q + nq, rfl⟩
          case measure => simp [intOf]; omega
        · have hb : ((u.toNat : Int) != (v.toNat : Int)) = true := by simp only [bne_iff_ne, ne_eq]; intro h; exact he (UInt8.toNat_inj.mp (by omega))
          go_wp2_with fail
          go_ret
          refine ⟨ret_bool ?_, q + nq, World.drewN_drewN _ _ _⟩
          symm
          rw [beq_eq_false_iff_ne]
          rintro rfl
          have e := HU.out.symm.trans HV.out
          injection e with e
          exact he e
      · obtain rfl : k = n := by omega
        go_wp2_with fail
        go_ret
        refine ⟨ret_bool ?_, q, rfl⟩
        have hx := HX.out
        rw [List.take_of_length_le (by rw [HL.out]; exact Nat.le_refl _), List.take_of_length_le (by rw [HM.out]; exact Nat.le_refl _)] at hx
        simp [hx]
  · have hne' : ((n : Int) != (m : Int)) = true := by simp; omega
    go_enter Try.func26, Try.ntmps26
    go_wp2_with fail
    go_ret
    refine ⟨ret_bool ?_, 0, rfl⟩
    symm
    rw [beq_eq_false_iff_ne]
    intro e
    have h1 := HL.out
    have h2 := HM.out
    rw [e] at h1
    omega

set_option maxHeartbeats 400000 in
theorem ref0_CopyBytes (A : Option Addr) (n c : Nat) (xs : List UInt8) (w : World) (hs : Sl w 1 A n (bytes8 xs)) (hn : n ≤ 9223372036854775807) (hr : n * 1 ≤ 140737488355328) :
    Calls Try.prog 31 #[.slice A n c] w fun e w' => ∃ v, e = .returned v ∧ w'.ownsRow w.heap.size 5 1 v n (bytes8 xs) ∧ Below w.heap.size w w' := by
  obtain ⟨i0, hi, hz0, hz1, hz2⟩ := info_parts Try.infoByte
  have HL := hide hs.blen
  go_enter Try.func31, Try.ntmps31
  go_wp2_with fail
  go_loopw [3, 4] (fun v i wr => ∃ k : Nat, k ≤ n ∧ i = .int .i64 k ∧ wr.ownsRow w.heap.size 5 1 v k (bytes8 (xs.take k)) ∧ Below w.heap.size w wr) (fun _ i _ => n - (intOf i).toNat)
  case atStart => exact ⟨0, Nat.zero_le _, rfl, World.ownsRow_nil _ _ _ _, Below.refl _ _⟩
  case round =>
    obtain ⟨k, hk, rfl, hown, hb⟩ := hrel
    by_cases hlt : k < n
    · obtain ⟨b, off, u, rfl, HU, hc, _⟩ := hs.byte hlt
      have hc' := cell_later hb hc
      clear hc hs
      go_wp2_with (first
        | (at_builtin; refine wpList_append_own _ rfl _ _ 28 rfl w.heap.size 5 i0 (.int .u8 0) 1 1 Try.underlying28 hi hz0 hz1 hz2 rfl (by decide) _ _ _ rfl (hown.alloc _) ⟨wr.heap.size, 0, none⟩ 1 1 [.int .u8 (u.toNat : Int)] rfl rfl ?c1 ?c2 ?c3 ?c4 ?c5 ?_))
      case c1 => exact news_one _ _ _
      case c2 => exact one_int _ _
      case c3 => unfold maxLen; omega
      case c4 => omega
      case c5 => have := hb.size; simp; omega
      intro v' w1 hown' hg _
      have HO : bytes8 (List.take (k + 1) xs) = bytes8 (List.take k xs) ++ [.int .u8 (u.toNat : Int)] := by rw [take_at HU.out]; simp [bytes8]
      have hown2 := HO ▸ hown'
      have hb2 : Below w.heap.size w w1 := (hb.alloc hb.size _).grown hg (by simp; have := hb.size; omega) (fun g hg' => (hown.lt g hg').1)
      clear HO hown' hg hown hb hc'
      go_wp2_with fail
      go_roundw
      case rel => exact ⟨k + 1, by omega, by go_num, hown2, hb2⟩
      case measure => simp [intOf]; omega
    · obtain rfl : k = n := by omega
      have hown2 : wr.ownsRow w.heap.size 5 1 u3 k (bytes8 xs) := by rw [List.take_of_length_le (by rw [HL.out]; exact Nat.le_refl _)] at hown; exact hown
      clear hown
      go_wp2_with fail
      go_ret
      exact ⟨_, rfl, hown2, hb⟩
end Go.Proofs.Ytflamhndmggiaaa
/-
  Contracts of reading numbers: wire's own: what bytes are read as, or none.
-/
namespace Go.Proofs.Ytflamhndmggiaaa
open Go.RowKit


set_option maxRecDepth 100000 in
set_option maxHeartbeats 1000000 in
theorem wire_listI_yes {A : Option Addr} {n c : Nat} {bs : List UInt8} {ls : List Int} (w : World) (hs : Sl w 1 A n (bytes8 bs)) (hnc : n ≤ c) (hc : c ≤ 9223372036854775807) (hg : getI bs = some ls) :
    Calls Try.prog 81 #[.slice A n c, .func (.func 82) #[] #[]] w fun e w' => ∃ v, e = .returned (.tuple #[v, .int .i64 0]) ∧ w'.ownsRow w.heap.size 3 1 v ls.length (ints ls) ∧ Below w.heap.size w w' := by
  obtain ⟨hb, m, k, hcnt, hrd⟩ := getL_cnt hg
  obtain ⟨i0, hi, hz0, hz1, hz2⟩ := info_parts Try.infoInt
  have hn : n ≤ 1048576 := by rw [hs.blen] at hb; exact hb
  have hd : decide ((1048576 : Int) < (n : Int)) = false := by rw [decide_eq_false_iff_not]; omega
  have HR : Hid (Rd (w.alloc (.cells #[.slice A n c, .bool false] 129)) w.heap.size bs false) := ⟨A, n, c, Blk.new w _ _, hs.alloc _, hnc, hc, fun h => by obtain ⟨b, off, e, hb, _⟩ := hs.2 h; exact ⟨b, off, e, hb⟩⟩
  have HC := hide hcnt
  have HD := hide hrd
  have HB0 : Hid (Below w.heap.size w (w.alloc (.cells #[.slice A n c, .bool false] 129))) := (Below.refl _ _).alloc (Nat.le_refl _) _
  have hmb : m ≤ 1048576 := by
    have h1 := (cntN_some hcnt).2
    rw [List.length_drop] at h1
    omega
  clear hg hcnt hrd hb hs
  go_enter Try.func81, Try.ntmps81
  go_wp2_with fail
  go_step3
  go_wp2_with (go_at_call 83; refine (rd_count_yes _ HR.out HC.out).mono ?_; rintro e w2 ⟨rfl, hr2, hg2⟩)
  have hb2 : Below w.heap.size w w2 := HB0.out.grown hg2 (by simp) (fun g hg' => by injection hg' with h; omega)
  go_loopw [4, 7] (fun l t wr => ∃ (j : Nat) (ys zs : List Int) (rest : List UInt8), t = .int .i64 j ∧ Hid (rdL oneI j rest = some zs) ∧ Hid (ys ++ zs = ls) ∧ ys.length + j ≤ 1048576 ∧ Rd wr w.heap.size rest false ∧ wr.ownsRow w.heap.size 3 1 l ys.length (ints ys) ∧ Below w.heap.size w wr) (fun _ t _ => (intOf t).toNat)
  case atStart => exact ⟨m, [], ls, bs.drop k, rfl, HD, by simp [Hid], by simpa using hmb, hr2, World.ownsRow_nil _ _ _ _, hb2⟩
  case round =>
    obtain ⟨j, ys, zs, rest, rfl, HZ, HY, hyj, hr, hown, hb⟩ := hrel
    clear hr2 hg2 hb2
    obtain ⟨wo, rfl⟩ : ∃ wo : World, wo = wr := ⟨_, rfl⟩
    have hsz := hb.size
    have hlt0 : w.heap.size < wo.heap.size := hr.lt
    cases j with
    | zero =>
      obtain ⟨hr0, hz0'⟩ := rdL_zero HZ.out
      obtain ⟨A1, n1, c1, hb1, hs1, _⟩ := hr
      have h0 : wo.cell? ⟨w.heap.size, 0, none⟩ = some (.slice A1 n1 c1) := hb1.at_ rfl
      have h1 : wo.cell? ⟨w.heap.size, 1, none⟩ = some (.bool false) := hb1.at_ rfl
      have hn1 : n1 = 0 := by
        have := hs1.blen
        rw [hr0] at this
        simpa using this.symm
      subst hn1
      have HF : Hid (ys = ls) := by have := HY.out; rw [hz0', List.append_nil] at this; exact this
      clear hb1 hs1 hr0 hz0'
      go_wp2_with fail
      try rw [Exit.noGoto_ret]
      go_ret2
      refine ⟨_, rfl, ?_, hb⟩
      rw [← HF.out]
      exact hown
    | succ j =>
      obtain ⟨a, r', zs', h1, h2, h3⟩ := rdL_more HZ.out
      have H1 := hide h1
      have H2 := hide h2
      have HY2 : Hid ((ys ++ [a]) ++ zs' = ls) := by have := HY.out; rw [h3] at this; simpa [Hid] using this
      clear h1 h2 h3
      obtain ⟨A2, c2, rfl⟩ := own_slice hown
      go_wp2_with fail
      refine (rd_oneI_yes _ hr H1.out).mono ?_
      rintro e w3 ⟨rfl, hr3, hg3⟩
      obtain ⟨hown3, hb3, hlt3⟩ := rd_call (by decide) hr hown hb hr3 hg3
      clear hown hb hg3 hr
      go_wp2_with (at_builtin; refine wpList_append_own _ rfl _ _ 46 rfl w.heap.size 3 i0 (.int .i64 0) 1 8 Try.underlying46 hi hz0 hz1 hz2 rfl (by decide) _ _ _ rfl (hown3.alloc _) ⟨w3.heap.size, 0, none⟩ 1 1 [.int .i64 a] rfl rfl ?c1 ?c2 ?c3 ?c4 ?c5 ?_)
      case c1 => exact news_one _ _ _
      case c2 => exact one_int64 _
      case c3 => unfold maxLen; omega
      case c4 => omega
      case c5 => simp; omega
      intro v4 w4 hown4 hg4 _
      obtain ⟨A4, c4, rfl⟩ := own_slice hown4
      obtain ⟨hr4, hb4⟩ := rd_grow (by decide) hr3 hown3 hb3 hg4
      have hown5 : w4.ownsRow w.heap.size 3 1 (.slice A4 (ys.length + 1) c4) (ys ++ [a]).length (ints (ys ++ [a])) := by
        have e : ints (ys ++ [a]) = ints ys ++ [.int .i64 a] := by simp [ints]
        rw [e, List.length_append]; exact hown4
      have hrr := hide hr4
      obtain ⟨A5, n5, c5, hb5, _⟩ := hr4
      have h1' : w4.cell? ⟨w.heap.size, 1, none⟩ = some (.bool false) := hb5.at_ rfl
      clear hown4 hg4 hown3 hb3 hr3 hb5
      go_wp2_with fail
      go_roundw
      case rel => exact ⟨j, ys ++ [a], zs', r', by go_num, H2, HY2, by simp; omega, hrr.out, hown5, hb4⟩
      case measure => simp [intOf]

set_option maxRecDepth 100000 in
set_option maxHeartbeats 2000000 in
theorem wire_listI_no {A : Option Addr} {n c : Nat} {bs : List UInt8} (w : World) (hs : Sl w 1 A n (bytes8 bs)) (hnc : n ≤ c) (hc : c ≤ 9223372036854775807) (hg : getI bs = none) :
    Calls Try.prog 81 #[.slice A n c, .func (.func 82) #[] #[]] w fun e w' => e = .returned (.tuple #[.slice none 0 0, .int .i64 1]) ∧ Below w.heap.size w w' := by
  obtain ⟨i0, hi, hz0, hz1, hz2⟩ := info_parts Try.infoInt
  obtain ⟨bad, hbad⟩ : ∃ bad, decide ((1048576 : Int) < (n : Int)) = bad := ⟨_, rfl⟩
  have HR : Hid (Rd (w.alloc (.cells #[.slice A n c, .bool bad] 129)) w.heap.size bs bad) := ⟨A, n, c, Blk.new w _ _, hs.alloc _, hnc, hc, fun h => by obtain ⟨b, off, e, hb, _⟩ := hs.2 h; exact ⟨b, off, e, hb⟩⟩
  have HB0 : Hid (Below w.heap.size w (w.alloc (.cells #[.slice A n c, .bool bad] 129))) := (Below.refl _ _).alloc (Nat.le_refl _) _
  have two : (bad = true ∨ cntN bs = none) ∨ (bad = false ∧ ∃ m k, cntN bs = some (m, k) ∧ m ≤ 1048576 ∧ rdL oneI m (bs.drop k) = none) := by
    cases hb : bad with
    | true => exact .inl (.inl rfl)
    | false =>
      rw [hb, decide_eq_false_iff_not] at hbad
      cases hcn : cntN bs with
      | none => exact .inl (.inr rfl)
      | some p =>
        obtain ⟨m, k⟩ := p
        have h1 := (cntN_some hcn).2
        rw [List.length_drop, hs.blen] at h1
        exact .inr ⟨rfl, m, k, rfl, by omega, getL_cnt_no hg (by rw [hs.blen]; omega) hcn⟩
  clear hg hs
  go_enter Try.func81, Try.ntmps81
  go_wp2_with fail
  refine scope_loop 0 (fun a w' => ∃ (u0 u1 u2 u3 u4 u5 u6 u7 u8 u9 u10 u11 u12 u13 u14 u15 u16 u17 u18 u19 u20 u21 u22 u23 u24 u25 u26 u27 u28 u29 u30 u31 u32 u33 u34 u35 u36 u37 u38 u39 u40 u41 u42 u43 : Value), a = { tmps := #[u0, u1, u2, u3, u4, u5, u6, u7, u8, u9, u10, u11, u12, u13, u14, u15, u16, u17, u18, u19, u20, u21, u22, u23, u24, u25, u26, u27, u28, u29, u30, u31, u32, u33, u34, u35, u36, u37, u38, u39, u40, u41, u42, u43], defers := [] } ∧ Below w.heap.size w w') (fun _ _ => 0) rfl ?_ ?_
  · rintro a w' ⟨u0, u1, u2, u3, u4, u5, u6, u7, u8, u9, u10, u11, u12, u13, u14, u15, u16, u17, u18, u19, u20, u21, u22, u23, u24, u25, u26, u27, u28, u29, u30, u31, u32, u33, u34, u35, u36, u37, u38, u39, u40, u41, u42, u43, rfl, hb⟩
    clear two HB0 HR hbad
    go_wp2_with fail
    try rw [Exit.jump_ret]
    go_ret2
    exact ⟨rfl, hb⟩
  · intro H
    rcases two with two | ⟨rfl, m, k, hcn, hm, hrd⟩
    · go_wp2_with fail
      refine (rd_count_no _ HR.out two).mono ?_
      rintro e w2 ⟨rfl, ⟨bs', hr2⟩, hg2⟩
      have hb2 : Below w.heap.size w w2 := HB0.out.grown hg2 (by simp) (fun g hg' => by injection hg' with h; omega)
      obtain ⟨A1, n1, c1, hb1, _⟩ := hr2
      have h1' : w2.cell? ⟨w.heap.size, 1, none⟩ = some (.bool true) := hb1.at_ rfl
      clear hg2 hb1 two HR HB0 hbad
      go_wp2_with fail
      go_loopw [4, 7] (fun l t wr => t = .int .i64 0 ∧ w2 = wr) (fun _ t _ => (intOf t).toNat)
      case atStart => exact ⟨rfl, rfl⟩
      case round =>
        obtain ⟨rfl, rfl⟩ := hrel
        go_wp2_with fail
        go_step3
        rename_i hk
        exact hk _ _ (H _ _ ⟨_, _, _, _, _, _, _, _, _, _, _, _, _, _, _, _, _, _, _, _, _, _, _, _, _, _, _, _, _, _, _, _, _, _, _, _, _, _, _, _, _, _, _, _, rfl, hb2⟩)
    · have HC := hide hcn
      have HD := hide hrd
      clear hcn hrd
      go_wp2_with fail
      refine (rd_count_yes _ HR.out HC.out).mono ?_
      rintro e w2 ⟨rfl, hr2, hg2⟩
      have hb2 : Below w.heap.size w w2 := HB0.out.grown hg2 (by simp) (fun g hg' => by injection hg' with h; omega)
      clear hg2 HR HB0 hbad
      go_wp2_with fail
      go_loopw [4, 7] (fun l t wr => ∃ (j : Nat) (ys : List Int) (rest : List UInt8), t = .int .i64 j ∧ Hid (rdL oneI j rest = none) ∧ ys.length + j ≤ 1048576 ∧ Rd wr w.heap.size rest false ∧ wr.ownsRow w.heap.size 3 1 l ys.length (ints ys) ∧ Below w.heap.size w wr) (fun _ t _ => (intOf t).toNat)
      case atStart => exact ⟨m, [], bs.drop k, rfl, HD, by simpa using hm, hr2, World.ownsRow_nil _ _ _ _, hb2⟩
      case round =>
        obtain ⟨j, ys, rest, rfl, HZ, hyj, hr, hown, hb⟩ := hrel
        clear hr2 hb2
        obtain ⟨wo, rfl⟩ : ∃ wo : World, wo = wr := ⟨_, rfl⟩
        have hsz := hb.size
        have hlt0 : w.heap.size < wo.heap.size := hr.lt
        cases j with
        | zero =>
          have hpos := rdL_zero_no HZ.out
          obtain ⟨A1, n1, c1, hb1, hs1, _⟩ := hr
          have h0 : wo.cell? ⟨w.heap.size, 0, none⟩ = some (.slice A1 n1 c1) := hb1.at_ rfl
          have h1 : wo.cell? ⟨w.heap.size, 1, none⟩ = some (.bool false) := hb1.at_ rfl
          have hn1 : ((n1 : Int) == 0) = false := by
            have := hs1.blen
            simp; omega
          clear hb1 hs1 hpos
          go_wp2_with fail
          go_step3
          rename_i hk
          exact hk _ _ (H _ _ ⟨_, _, _, _, _, _, _, _, _, _, _, _, _, _, _, _, _, _, _, _, _, _, _, _, _, _, _, _, _, _, _, _, _, _, _, _, _, _, _, _, _, _, _, _, rfl, hb⟩)
        | succ j =>
          obtain ⟨A2, c2, rfl⟩ := own_slice hown
          rcases rdL_less HZ.out with h1 | ⟨a, r', h1, h2⟩
          · have H1 := hide h1
            clear h1
            go_wp2_with fail
            refine (rd_oneI_no _ hr H1.out).mono ?_
            rintro e w3 ⟨⟨a, rfl⟩, ⟨r', hr3⟩, hg3⟩
            obtain ⟨hown3, hb3, hlt3⟩ := rd_call (by decide) hr hown hb hr3 hg3
            clear hown hb hg3 hr
            go_wp2_with (at_builtin; refine wpList_append_own _ rfl _ _ 46 rfl w.heap.size 3 i0 (.int .i64 0) 1 8 Try.underlying46 hi hz0 hz1 hz2 rfl (by decide) _ _ _ rfl (hown3.alloc _) ⟨w3.heap.size, 0, none⟩ 1 1 [.int .i64 a] rfl rfl (news_one _ _ _) (one_int64 _) (by unfold maxLen; omega) (by omega) (by simp; omega) ?_)
            intro v4 w4 hown4 hg4 _
            obtain ⟨hr4, hb4⟩ := rd_grow (by decide) hr3 hown3 hb3 hg4
            obtain ⟨A5, n5, c5, hb5, _⟩ := hr4
            have h1' : w4.cell? ⟨w.heap.size, 1, none⟩ = some (.bool true) := hb5.at_ rfl
            clear hown4 hg4 hown3 hb3 hr3 hb5
            go_wp2_with fail
            go_step3
            repeat (first | refine Exit.then_goto ?_ | refine Exit.inBlock_goto ?_)
            exact Exit.jump_goto ⟨_, _, _, _, _, _, _, _, _, _, _, _, _, _, _, _, _, _, _, _, _, _, _, _, _, _, _, _, _, _, _, _, _, _, _, _, _, _, _, _, _, _, _, _, rfl, hb4⟩
          · have H1 := hide h1
            have H2 := hide h2
            clear h1 h2
            go_wp2_with fail
            refine (rd_oneI_yes _ hr H1.out).mono ?_
            rintro e w3 ⟨rfl, hr3, hg3⟩
            obtain ⟨hown3, hb3, hlt3⟩ := rd_call (by decide) hr hown hb hr3 hg3
            clear hown hb hg3 hr
            go_wp2_with (at_builtin; refine wpList_append_own _ rfl _ _ 46 rfl w.heap.size 3 i0 (.int .i64 0) 1 8 Try.underlying46 hi hz0 hz1 hz2 rfl (by decide) _ _ _ rfl (hown3.alloc _) ⟨w3.heap.size, 0, none⟩ 1 1 [.int .i64 a] rfl rfl (news_one _ _ _) (one_int64 _) (by unfold maxLen; omega) (by omega) (by simp; omega) ?_)
            intro v4 w4 hown4 hg4 _
            obtain ⟨hr4, hb4⟩ := rd_grow (by decide) hr3 hown3 hb3 hg4
            have hown5 : w4.ownsRow w.heap.size 3 1 v4 (ys ++ [a]).length (ints (ys ++ [a])) := by
              have e : ints (ys ++ [a]) = ints ys ++ [.int .i64 a] := by simp [ints]
              rw [e, List.length_append]; exact hown4
            have hrr := hide hr4
            obtain ⟨A5, n5, c5, hb5, _⟩ := hr4
            have h1' : w4.cell? ⟨w.heap.size, 1, none⟩ = some (.bool false) := hb5.at_ rfl
            clear hown4 hg4 hown3 hb3 hr3 hb5
            go_wp2_with fail
            go_roundw
            case rel => exact ⟨j, ys ++ [a], r', by go_num, H2, by simp; omega, hrr.out, hown5, hb4⟩
            case measure => simp [intOf]

set_option maxHeartbeats 400000 in
theorem wire_GetNums_yes {A : Option Addr} {n c : Nat} {bs : List UInt8} {ls : List Int} (w : World) (hs : Sl w 1 A n (bytes8 bs)) (hnc : n ≤ c) (hc : c ≤ 9223372036854775807) (hg : getI bs = some ls) :
    Calls Try.prog 66 #[.slice A n c] w fun e w' => ∃ v, e = .returned (.tuple #[v, .int .i64 0]) ∧ w'.ownsRow w.heap.size 3 1 v ls.length (ints ls) ∧ Below w.heap.size w w' := by
  have HG := hide hg
  clear hg
  go_enter Try.func66, Try.ntmps66
  go_wp2_with fail
  refine (wire_listI_yes _ hs hnc hc HG.out).mono ?_
  rintro e w1 ⟨v, rfl, h1, h2⟩
  go_wp2_with fail
  go_ret2
  exact ⟨_, rfl, h1, h2⟩
set_option maxHeartbeats 400000 in
theorem wire_GetNums_no {A : Option Addr} {n c : Nat} {bs : List UInt8} (w : World) (hs : Sl w 1 A n (bytes8 bs)) (hnc : n ≤ c) (hc : c ≤ 9223372036854775807) (hg : getI bs = none) :
    Calls Try.prog 66 #[.slice A n c] w fun e w' => e = .returned (.tuple #[.slice none 0 0, .int .i64 1]) ∧ Below w.heap.size w w' := by
  have HG := hide hg
  clear hg
  go_enter Try.func66, Try.ntmps66
  go_wp2_with fail
  refine (wire_listI_no _ hs hnc hc HG.out).mono ?_
  rintro e w1 ⟨rfl, h2⟩
  go_wp2_with fail
  go_ret2
  exact ⟨rfl, h2⟩
end Go.Proofs.Ytflamhndmggiaaa
/-
  Contracts of the statements' spoilers (answers are written over), and of the references' lists of numbers.
-/
namespace Go.Proofs.Ytflamhndmggiaaa
open Go.RowKit

theorem xor_all : ∀ a : Fin 256, bits BinOp.xor IntKind.u8 ((a.val : Nat) : Int) 85 = ((a.val ^^^ 85 : Nat) : Int) := by decide +kernel
theorem xor_u8 (c : UInt8) : bits BinOp.xor IntKind.u8 (c.toNat : Int) 85 = ((c ^^^ 85 : UInt8).toNat : Int) := by
  have h := xor_all ⟨c.toNat, c.toNat_lt⟩
  rw [UInt8.toNat_xor]
  exact h
theorem below_set {B : Nat} {w wr : World} (h : Below B w wr) {g i : Nat} (hg : B ≤ g) (u : Value) : Below B w (wr.setCell ⟨g, i, none⟩ u) := h.setCell hg u

set_option maxRecDepth 100000 in
set_option maxHeartbeats 1000000 in
theorem law0_Strings {v : Value} {n base : Nat} {xs : List ByteArray} (w : World) (h : w.ownsRow base 9 1 v n (strs xs)) (hbase : base ≤ w.heap.size) (hn : n ≤ 1099511627776) :
    Calls Try.prog 62 #[v] w fun e w' => e = .returned (.tuple #[]) ∧ Below base w w' := by
  obtain ⟨i0, hi, hz0, hz1, hz2⟩ := info_parts Try.infoStr
  obtain ⟨A, c, rfl⟩ := own_slice h
  go_enter Try.func62, Try.ntmps62
  go_wp2_with fail
  go_loopw [2] (fun i wr => ∃ (k : Nat) (ys : List ByteArray), k ≤ n ∧ i = .int .i64 k ∧ wr.ownsRow base 9 1 (.slice A n c) n (strs ys) ∧ Below base w wr) (fun i _ => n - (intOf i).toNat)
  case atStart => exact ⟨0, xs, Nat.zero_le _, rfl, h, Below.refl _ _⟩
  case round =>
    obtain ⟨k, ys, hk, rfl, hown, hb⟩ := hrel
    have hsz := hb.size
    by_cases hlt : k < n
    · have hl := hown.1
      rw [strs_len] at hl
      obtain ⟨g, cap, hv, hgb, hgl⟩ := hown.form (by omega)
      injection hv with hA _ hc
      subst hA
      subst hc
      have hc0 : wr.cell? ⟨g, k, none⟩ = some (.string (ys[k]'(by omega))) := by rw [hown.cellAt k (by omega)]; simp only [strs, List.getElem?_map, List.getElem?_eq_getElem (show k < ys.length by omega)]; rfl
      have hf0 := hown.frozenAt k
      have hst := hide (fun u => hown.stored k u)
      have hgb' : base ≤ g := hgb
      have hb' : ∀ u, Hid (Below base w (wr.setCell ⟨g, k, none⟩ u)) := fun u => below_set hb hgb' u
      have HB := hide hb'
      clear hown hb' hb
      go_wp2_with fail
      go_roundw
      case rel =>
        refine ⟨k + 1, ys.set k ⟨#[115, 112, 111, 105, 108, 116]⟩, by omega, by go_num, ?_, (HB.out _).out⟩
        have h9 := hst.out (.string ⟨#[115, 112, 111, 105, 108, 116]⟩)
        rw [show strs (ys.set k ⟨#[115, 112, 111, 105, 108, 116]⟩) = (strs ys).set k (.string ⟨#[115, 112, 111, 105, 108, 116]⟩) by simp [strs, List.map_set]]
        exact h9.1
      case measure => simp [intOf]; omega
    · obtain rfl : k = n := by omega
      go_wp2_with (at_builtin; refine wpList_append_own _ rfl _ _ 45 rfl base 9 i0 (.string ByteArray.empty) 1 16 Try.underlying45 hi hz0 hz1 hz2 rfl (by decide) _ _ _ rfl (hown.alloc _) ⟨wr.heap.size, 0, none⟩ 1 1 [.string ⟨#[]⟩] rfl rfl (news_one _ _ _) (one_str _) (by unfold maxLen; omega) (by omega) (by simp; omega) ?_)
      intro v3 w3 _ hg3 _
      have hb4 : Below base w w3 := (hb.alloc (by omega) _).grown hg3 (by simp; omega) (fun g hg' => (hown.lt g hg').1)
      clear hg3 hown hb
      go_wp2_with fail
      go_end0
      exact ⟨rfl, hb4⟩

set_option maxRecDepth 100000 in
set_option maxHeartbeats 1000000 in
theorem law0_Numbers {v : Value} {n base : Nat} {xs : List Int} (w : World) (h : w.ownsRow base 3 1 v n (ints xs)) (hbase : base ≤ w.heap.size) (hn : n ≤ 1099511627776) :
    Calls Try.prog 68 #[v] w fun e w' => e = .returned (.tuple #[]) ∧ Below base w w' := by
  obtain ⟨i0, hi, hz0, hz1, hz2⟩ := info_parts Try.infoInt
  obtain ⟨A, c, rfl⟩ := own_slice h
  go_enter Try.func68, Try.ntmps68
  go_wp2_with fail
  go_loopw [2] (fun i wr => ∃ (k : Nat) (ys : List Int), k ≤ n ∧ i = .int .i64 k ∧ wr.ownsRow base 3 1 (.slice A n c) n (ints ys) ∧ Below base w wr) (fun i _ => n - (intOf i).toNat)
  case atStart => exact ⟨0, xs, Nat.zero_le _, rfl, h, Below.refl _ _⟩
  case round =>
    obtain ⟨k, ys, hk, rfl, hown, hb⟩ := hrel
    have hsz := hb.size
    by_cases hlt : k < n
    · have hl := hown.1
      rw [ints_len] at hl
      obtain ⟨g, cap, hv, hgb, hgl⟩ := hown.form (by omega)
      injection hv with hA _ hc
      subst hA
      subst hc
      have hc0 : wr.cell? ⟨g, k, none⟩ = some (.int .i64 (ys[k]'(by omega))) := by rw [hown.cellAt k (by omega)]; simp only [ints, List.getElem?_map, List.getElem?_eq_getElem (show k < ys.length by omega)]; rfl
      have hf0 := hown.frozenAt k
      have hst := hide (fun u => hown.stored k u)
      have hgb' : base ≤ g := hgb
      have hb' : ∀ u, Hid (Below base w (wr.setCell ⟨g, k, none⟩ u)) := fun u => below_set hb hgb' u
      have HB := hide hb'
      clear hown hb' hb
      go_wp2_with fail
      go_roundw
      case rel =>
        refine ⟨k + 1, ys.set k (-99), by omega, by go_num, ?_, (HB.out _).out⟩
        have h9 := hst.out (.int .i64 (-99))
        rw [show ints (ys.set k (-99)) = (ints ys).set k (.int .i64 (-99)) by simp [ints, List.map_set]]
        exact h9.1
      case measure => simp [intOf]; omega
    · obtain rfl : k = n := by omega
      go_wp2_with (at_builtin; refine wpList_append_own _ rfl _ _ 46 rfl base 3 i0 (.int .i64 0) 1 8 Try.underlying46 hi hz0 hz1 hz2 rfl (by decide) _ _ _ rfl (hown.alloc _) ⟨wr.heap.size, 0, none⟩ 1 1 [.int .i64 5] rfl rfl (news_one _ _ _) (one_int64 _) (by unfold maxLen; omega) (by omega) (by simp; omega) ?_)
      intro v3 w3 _ hg3 _
      have hb4 : Below base w w3 := (hb.alloc (by omega) _).grown hg3 (by simp; omega) (fun g hg' => (hown.lt g hg').1)
      clear hg3 hown hb
      go_wp2_with fail
      go_end0
      exact ⟨rfl, hb4⟩

set_option maxRecDepth 100000 in
set_option maxHeartbeats 1000000 in
theorem law0_Bytes {v : Value} {n base : Nat} {xs : List UInt8} (w : World) (h : w.ownsRow base 5 1 v n (bytes8 xs)) (hbase : base ≤ w.heap.size) (hn : n ≤ 1099511627776) :
    Calls Try.prog 36 #[v] w fun e w' => e = .returned (.tuple #[]) ∧ Below base w w' := by
  obtain ⟨i0, hi, hz0, hz1, hz2⟩ := info_parts Try.infoByte
  obtain ⟨A, c, rfl⟩ := own_slice h
  go_enter Try.func36, Try.ntmps36
  go_wp2_with fail
  go_loopw [2] (fun i wr => ∃ (k : Nat) (ys : List UInt8), k ≤ n ∧ i = .int .i64 k ∧ wr.ownsRow base 5 1 (.slice A n c) n (bytes8 ys) ∧ Below base w wr) (fun i _ => n - (intOf i).toNat)
  case atStart => exact ⟨0, xs, Nat.zero_le _, rfl, h, Below.refl _ _⟩
  case round =>
    obtain ⟨k, ys, hk, rfl, hown, hb⟩ := hrel
    have hsz := hb.size
    by_cases hlt : k < n
    · have hl := hown.1
      rw [bytes8_len] at hl
      obtain ⟨g, cap, hv, hgb, hgl⟩ := hown.form (by omega)
      injection hv with hA _ hc
      subst hA
      subst hc
      have hc0 : wr.cell? ⟨g, k, none⟩ = some (.int .u8 ((ys[k]'(by omega)).toNat : Int)) := by rw [hown.cellAt k (by omega)]; simp only [bytes8, List.getElem?_map, List.getElem?_eq_getElem (show k < ys.length by omega)]; rfl
      have hf0 := hown.frozenAt k
      have hst := hide (fun u => hown.stored k u)
      have hgb' : base ≤ g := hgb
      have hb' : ∀ u, Hid (Below base w (wr.setCell ⟨g, k, none⟩ u)) := fun u => below_set hb hgb' u
      have HB := hide hb'
      clear hown hb' hb
      go_wp2_with fail
      go_roundw
      case rel =>
        refine ⟨k + 1, ys.set k ((ys[k]'(by omega)) ^^^ 85), by omega, by go_num, ?_, (HB.out _).out⟩
        have h9 := hst.out (.int .u8 (((ys[k]'(by omega)) ^^^ 85 : UInt8).toNat : Int))
        rw [show bytes8 (ys.set k ((ys[k]'(by omega)) ^^^ 85)) = (bytes8 ys).set k (.int .u8 (((ys[k]'(by omega)) ^^^ 85 : UInt8).toNat : Int)) by simp [bytes8, List.map_set]]
        rw [xor_u8]; exact h9.1
      case measure => simp [intOf]; omega
    · obtain rfl : k = n := by omega
      go_wp2_with (at_builtin; refine wpList_append_own _ rfl _ _ 28 rfl base 5 i0 (.int .u8 0) 1 1 Try.underlying28 hi hz0 hz1 hz2 rfl (by decide) _ _ _ rfl (hown.alloc _) ⟨wr.heap.size, 0, none⟩ 1 1 [.int .u8 5] rfl rfl (news_one _ _ _) (one_int _ _) (by unfold maxLen; omega) (by omega) (by simp; omega) ?_)
      intro v3 w3 _ hg3 _
      have hb4 : Below base w w3 := (hb.alloc (by omega) _).grown hg3 (by simp; omega) (fun g hg' => (hown.lt g hg').1)
      clear hg3 hown hb
      go_wp2_with fail
      go_end0
      exact ⟨rfl, hb4⟩
end Go.Proofs.Ytflamhndmggiaaa
/-
  Contracts of the references' functions over lists of texts: copies, comparisons.
-/
namespace Go.Proofs.Ytflamhndmggiaaa
open Go.RowKit

set_option maxHeartbeats 400000 in
theorem ref0_EqStrings (A B : Option Addr) (n c m d : Nat) (xs ys : List ByteArray) (w : World) (hs : Sl w 1 A n (strs xs)) (hn : n ≤ 9223372036854775807) (ht : Sl w 1 B m (strs ys)) (hm : m ≤ 9223372036854775807) :
    Calls Try.prog 59 #[.slice A n c, .slice B m d] w fun e w' => e = .returned (.bool (decide (xs = ys))) ∧ ∃ q, w' = w.drewN q := by
  have HL := hide hs.slen
  have HM := hide ht.slen
  by_cases hne : n = m
  · subst hne
    go_enter Try.func59, Try.ntmps59
    go_wp2_with fail
    go_loopw [5] (fun i wr => ∃ k : Nat, k ≤ n ∧ i = .int .i64 k ∧ xs.take k = ys.take k ∧ ∃ q, wr = w.drewN q) (fun i _ => n - (intOf i).toNat)
    case atStart => exact ⟨0, Nat.zero_le _, rfl, by simp, 0, rfl⟩
    case round =>
      obtain ⟨k, hk, rfl, hx, q, rfl⟩ := hrel
      have HX := hide hx
      clear hx
      by_cases hlt : k < n
      · obtain ⟨b, off, u, rfl, HU, hc, _⟩ := hs.str hlt
        obtain ⟨b', off', v, rfl, HV, hc', _⟩ := ht.str hlt
        clear hs ht
        go_wp2_with fail
        go_quiet (fail)
        by_cases he : u = v
        · subst he
          rw [show (u.toList == u.toList) = true by simp]
          go_wp2_with fail
          go_roundw
          case rel => exact ⟨k + 1, by omega, by go_num, by rw [take_at HU.out, take_at HV.out, HX.out], q + nq, rfl⟩
          case measure => simp [intOf]; omega
        · rw [toList_ne he]
          go_wp2_with fail
          go_ret
          refine ⟨ret_bool ?_, q + nq, World.drewN_drewN _ _ _⟩
          symm
          rw [decide_eq_false_iff_not]
          rintro rfl
          have e := HU.out.symm.trans HV.out
          injection e with e
          exact he e
      · obtain rfl : k = n := by omega
        go_wp2_with fail
        go_ret
        refine ⟨ret_bool ?_, q, rfl⟩
        have hx := HX.out
        rw [List.take_of_length_le (by rw [HL.out]; exact Nat.le_refl _), List.take_of_length_le (by rw [HM.out]; exact Nat.le_refl _)] at hx
        simp [hx]
  · have hne' : ((n : Int) != (m : Int)) = true := by simp; omega
    go_enter Try.func59, Try.ntmps59
    go_wp2_with fail
    go_ret
    refine ⟨ret_bool ?_, 0, rfl⟩
    symm
    rw [decide_eq_false_iff_not]
    intro e
    have h1 := HL.out
    have h2 := HM.out
    rw [e] at h1
    omega

set_option maxHeartbeats 400000 in
theorem ref0_CopyStrings (A : Option Addr) (n c : Nat) (xs : List ByteArray) (w : World) (hs : Sl w 1 A n (strs xs)) (hn : n ≤ 9223372036854775807) (hr : n * 16 ≤ 140737488355328) :
    Calls Try.prog 57 #[.slice A n c] w fun e w' => ∃ v, e = .returned v ∧ w'.ownsRow w.heap.size 9 1 v n (strs xs) ∧ Below w.heap.size w w' := by
  obtain ⟨i0, hi, hz0, hz1, hz2⟩ := info_parts Try.infoStr
  have HL := hide hs.slen
  go_enter Try.func57, Try.ntmps57
  go_wp2_with fail
  go_loopw [3, 4] (fun v i wr => ∃ k : Nat, k ≤ n ∧ i = .int .i64 k ∧ wr.ownsRow w.heap.size 9 1 v k (strs (xs.take k)) ∧ Below w.heap.size w wr) (fun _ i _ => n - (intOf i).toNat)
  case atStart => exact ⟨0, Nat.zero_le _, rfl, World.ownsRow_nil _ _ _ _, Below.refl _ _⟩
  case round =>
    obtain ⟨k, hk, rfl, hown, hb⟩ := hrel
    by_cases hlt : k < n
    · obtain ⟨b, off, u, rfl, HU, hc, _⟩ := hs.str hlt
      have hc' := cell_later hb hc
      clear hc hs
      go_wp2_with (first
        | (at_builtin; refine wpList_append_own _ rfl _ _ 45 rfl w.heap.size 9 i0 (.string ByteArray.empty) 1 16 Try.underlying45 hi hz0 hz1 hz2 rfl (by decide) _ _ _ rfl (hown.alloc _) ⟨wr.heap.size, 0, none⟩ 1 1 [.string u] rfl rfl ?c1 ?c2 ?c3 ?c4 ?c5 ?_))
      case c1 => exact news_one _ _ _
      case c2 => exact one_str _
      case c3 => unfold maxLen; omega
      case c4 => omega
      case c5 => have := hb.size; simp; omega
      intro v' w1 hown' hg _
      have HO : strs (List.take (k + 1) xs) = strs (List.take k xs) ++ [.string u] := by rw [take_at HU.out]; simp [strs]
      have hown2 := HO ▸ hown'
      have hb2 : Below w.heap.size w w1 := (hb.alloc hb.size _).grown hg (by simp; have := hb.size; omega) (fun g hg' => (hown.lt g hg').1)
      clear HO hown' hg hown hb hc'
      go_wp2_with fail
      go_roundw
      case rel => exact ⟨k + 1, by omega, by go_num, hown2, hb2⟩
      case measure => simp [intOf]; omega
    · obtain rfl : k = n := by omega
      have hown2 : wr.ownsRow w.heap.size 9 1 u3 k (strs xs) := by rw [List.take_of_length_le (by rw [HL.out]; exact Nat.le_refl _)] at hown; exact hown
      clear hown
      go_wp2_with fail
      go_ret
      exact ⟨_, rfl, hown2, hb⟩
end Go.Proofs.Ytflamhndmggiaaa
/-
  Small words for the walks of the laws.
-/
namespace Go.Proofs.Ytflamhndmggiaaa
open Go.RowKit

theorem below_then {w w1 w2 : World} (h : Below w.heap.size w w1) (h' : Below w1.heap.size w1 w2) : Below w.heap.size w w2 := h.trans (h'.mono h.size)
theorem own_drewN {w : World} {base size n : Nat} {e : TypeId} {v : Value} {xs : List Value} (h : w.ownsRow base e size v n xs) (q : Nat) : (w.drewN q).ownsRow base e size v n xs := h
theorem quiet_below {P : Program} {f : FuncId} {args : Array Value} {w : World} {v : Value} (h : Calls P f args w fun e w' => e = .returned v ∧ ∃ q, w' = w.drewN q) :
    Calls P f args w fun e w' => e = .returned v ∧ Below w.heap.size w w' := by
  refine h.mono ?_
  rintro e w' ⟨he, q, rfl⟩
  exact ⟨he, below_drewN (Below.refl _ _) q⟩
theorem same_below {P : Program} {f : FuncId} {args : Array Value} {w : World} {v : Value} (h : Calls P f args w fun e w' => e = .returned v ∧ w = w') :
    Calls P f args w fun e w' => e = .returned v ∧ Below w.heap.size w w' := by
  refine h.mono ?_
  rintro e w' ⟨he, rfl⟩
  exact ⟨he, Below.refl _ _⟩
theorem eqBytes_b {A B : Option Addr} {n c m d : Nat} {xs ys : List UInt8} (w : World) (hs : Sl w 1 A n (bytes8 xs)) (hn : n ≤ 9223372036854775807) (ht : Sl w 1 B m (bytes8 ys)) (hm : m ≤ 9223372036854775807) {r : Bool} (hr : Hid ((xs == ys) = r)) :
    Calls Try.prog 26 #[.slice A n c, .slice B m d] w fun e w' => e = .returned (.bool r) ∧ Below w.heap.size w w' := by
  rw [← hr.out]; exact quiet_below (ref0_EqBytes A B n c m d xs ys w hs hn ht hm)
theorem eqStrings_b {A B : Option Addr} {n c m d : Nat} {xs ys : List ByteArray} (w : World) (hs : Sl w 1 A n (strs xs)) (hn : n ≤ 9223372036854775807) (ht : Sl w 1 B m (strs ys)) (hm : m ≤ 9223372036854775807) {r : Bool} (hr : Hid (decide (xs = ys) = r)) :
    Calls Try.prog 59 #[.slice A n c, .slice B m d] w fun e w' => e = .returned (.bool r) ∧ Below w.heap.size w w' := by
  rw [← hr.out]; exact quiet_below (ref0_EqStrings A B n c m d xs ys w hs hn ht hm)
theorem eqNumbers_b {A B : Option Addr} {n c m d : Nat} {xs ys : List Int} (w : World) (hs : Sl w 1 A n (ints xs)) (hn : n ≤ 9223372036854775807) (ht : Sl w 1 B m (ints ys)) (hm : m ≤ 9223372036854775807) {r : Bool} (hr : Hid (decide (xs = ys) = r)) :
    Calls Try.prog 65 #[.slice A n c, .slice B m d] w fun e w' => e = .returned (.bool r) ∧ Below w.heap.size w w' := by
  rw [← hr.out]; exact quiet_below (ref0_EqNumbers A B n c m d xs ys w hs hn ht hm)
theorem eq_self {α : Type} [DecidableEq α] (a : α) : Hid (decide (a = a) = true) := by simp [Hid]
theorem beq_self (a : List UInt8) : Hid ((a == a) = true) := by simp [Hid]
theorem Sl.of_blk {w : World} {g size n : Nat} {t : TypeId} {cs : Array Value} (h : Blk w g t cs) (hs : cs.size = n * size) : Sl w size (some ⟨g, 0, none⟩) n cs.toList := by
  refine ⟨by simpa using hs, fun _ => ⟨g, 0, rfl, h.lt, fun j u hu => ?_⟩⟩
  rw [Nat.zero_add, h.cell]
  simpa using hu
theorem own_of_blk {w : World} {base g size n : Nat} {e : TypeId} {cs : Array Value} (h : Blk w g e cs) (hb : base ≤ g) (hs : cs.size = n * size) (hm : n ≤ 9223372036854775807) : w.ownsRow base e size (.slice (some ⟨g, 0, none⟩) n n) n cs.toList :=
  ⟨by simpa using hs, .inr ⟨g, n, cs, rfl, hb, h, Nat.le_refl _, by unfold maxLen; omega, hs, by rw [← hs, ← Array.length_toList, List.take_length]⟩⟩
theorem own_mono {w : World} {base base' size n : Nat} {e : TypeId} {v : Value} {xs : List Value} (h : w.ownsRow base e size v n xs) (hb : base' ≤ base) : w.ownsRow base' e size v n xs := by
  refine ⟨h.1, ?_⟩
  rcases h.2 with h0 | ⟨g, cap, cur, hv, hbg, hg, hr⟩
  · exact .inl h0
  · exact .inr ⟨g, cap, cur, hv, Nat.le_trans hb hbg, hg, hr⟩
theorem Blk.new2 (w : World) (o : Obj) (t : TypeId) (cs : Array Value) : Blk ((w.alloc o).alloc (.cells cs t)) (w.heap.size + 1) t cs := by
  have h := Blk.new (w.alloc o) t cs
  rwa [show (w.alloc o).heap.size = w.heap.size + 1 by simp] at h
theorem Sl.two {w : World} {g : Nat} {x y : Value} (h0 : w.cell? ⟨g, 0, none⟩ = some x) (h1 : w.cell? ⟨g, 1, none⟩ = some y) : Sl w 1 (some ⟨g, 0, none⟩) 2 [x, y] := by
  refine ⟨rfl, fun _ => ⟨g, 0, rfl, lt_of_cell h0, fun j u hu => ?_⟩⟩
  rw [Nat.zero_add]
  match j, hu with
  | 0, hu => simp at hu; subst hu; exact h0
  | 1, hu => simp at hu; subst hu; exact h1
theorem Sl.two_str {w : World} {g : Nat} {x y : ByteArray} (h0 : w.cell? ⟨g, 0, none⟩ = some (.string x)) (h1 : w.cell? ⟨g, 1, none⟩ = some (.string y)) : Sl w 1 (some ⟨g, 0, none⟩) 2 (strs [x, y]) := Sl.two h0 h1
theorem Sl.two_int {w : World} {g : Nat} {x y : Int} (h0 : w.cell? ⟨g, 0, none⟩ = some (.int .i64 x)) (h1 : w.cell? ⟨g, 1, none⟩ = some (.int .i64 y)) : Sl w 1 (some ⟨g, 0, none⟩) 2 (ints [x, y]) := Sl.two h0 h1
theorem Sl.grown_old {w w' : World} {size n B : Nat} {A : Option Addr} {cs : List Value} {row : Option Nat} (h : Sl w size A n cs) (hg : w.grownBy w' row) (hB : ∀ b off, A = some ⟨b, off, none⟩ → B ≤ b) (hr : ∀ g, row = some g → g < B) : Sl w' size A n cs := by
  refine ⟨h.1, fun hn => ?_⟩
  obtain ⟨b, off, e, hb, hc⟩ := h.2 hn
  refine ⟨b, off, e, Nat.lt_of_lt_of_le hb hg.size, fun j u hu => ?_⟩
  have hne : some b ≠ row := by
    intro e2
    have := hr b e2.symm
    have := hB b off e
    omega
  rw [World.cell?_of_block (a := ⟨b, off + j, none⟩) (hg.block b hb hne)]
  exact hc j u hu
theorem EndL.none_ {α : Type} {t : TypeId} {f : α → Value} {w w' : World} {e : Ending} (h : EndL (α := α) t f none w e w') : ∃ v, e = .returned (.tuple #[v, .bool false]) ∧ Below w.heap.size w w' := by
  obtain ⟨v, h1, _, h2⟩ := h
  exact ⟨v, h1, h2⟩
theorem EndL.none2_ {α : Type} {t : TypeId} {f : α → Value} {w w' : World} {e : Ending} (h : EndL (α := α) t f none w e w') : ∃ A n c, e = .returned (.tuple #[.slice A n c, .bool false]) ∧ Below w.heap.size w w' := by
  obtain ⟨v, h1, ⟨A, n, c, rfl⟩, h2⟩ := h
  exact ⟨A, n, c, h1, h2⟩
theorem EndL.some_ {α : Type} {t : TypeId} {f : α → Value} {l : List α} {w w' : World} {e : Ending} (h : EndL t f (some l) w e w') : ∃ v, e = .returned (.tuple #[v, .bool true]) ∧ w'.ownsRow w.heap.size t 1 v l.length (l.map f) ∧ Below w.heap.size w w' := h
end Go.Proofs.Ytflamhndmggiaaa
