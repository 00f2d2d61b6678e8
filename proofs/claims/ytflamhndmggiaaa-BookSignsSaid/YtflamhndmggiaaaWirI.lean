
/-
  Contracts of reading numbers: wire's own: what bytes are read as, or none.
-/
import Derived.Test.YtflamhndmggiaaaWirH
namespace Go.Proofs.Ytflamhndmggiaaa
open Go.RowKit


set_option maxRecDepth 100000 in
set_option maxHeartbeats 1000000 in
theorem wire_listI_yes {A : Option Addr} {n c : Nat} {bs : List UInt8} {ls : List Int} (w : World) (hs : Sl w 1 A n (bytes8 bs)) (hnc : n ≤ c) (hc : c ≤ 9223372036854775807) (hg : getI bs = some ls) :
    Calls Try.prog 81 #[.slice A n c, .func (.func 82) #[] #[]] w fun e w' => ∃ v, e = .returned (.tuple #[v, .int .i64 0]) ∧ w'.ownsRow w.heap.size 3 1 v ls.length (ints ls) ∧ Below w.heap.size w w' := by
  obtain ⟨hb, m, k, hcnt, hrd⟩ := getL_cnt hg
  obtain ⟨i0, hi, hz0, hz1, hz2⟩ := info_parts Try.infoInt
  have hn : n ≤ 1048576 := by rw [hs.blen] at hb; exact hb
  have hd : decide ((1048576 : Int) < (n : Int)) = false := by rw [decide_eq_false_iff_not]; omega
  have HR : Hid (Rd (w.alloc (.cells #[.slice A n c, .bool false] 129)) w.heap.size bs false) := ⟨A, n, c, Blk.new w _ _, hs.alloc _, hnc, hc, fun h => by obtain ⟨b, off, e, hb, _⟩ := hs.2 h; exact ⟨b, off, e, hb⟩⟩
  have HC := hide hcnt
  have HD := hide hrd
  have HB0 : Hid (Below w.heap.size w (w.alloc (.cells #[.slice A n c, .bool false] 129))) := (Below.refl _ _).alloc (Nat.le_refl _) _
  have hmb : m ≤ 1048576 := by
    have h1 := (cntN_some hcnt).2
    rw [List.length_drop] at h1
    omega
  clear hg hcnt hrd hb hs
  go_enter Try.func81, Try.ntmps81
  go_wp2_with fail
  go_step3
  go_wp2_with (go_at_call 83; refine (rd_count_yes _ HR.out HC.out).mono ?_; rintro e w2 ⟨rfl, hr2, hg2⟩)
  have hb2 : Below w.heap.size w w2 := HB0.out.grown hg2 (by simp) (fun g hg' => by injection hg' with h; omega)
  go_loopw [4, 7] (fun l t wr => ∃ (j : Nat) (ys zs : List Int) (rest : List UInt8), t = .int .i64 j ∧ Hid (rdL oneI j rest = some zs) ∧ Hid (ys ++ zs = ls) ∧ ys.length + j ≤ 1048576 ∧ Rd wr w.heap.size rest false ∧ wr.ownsRow w.heap.size 3 1 l ys.length (ints ys) ∧ Below w.heap.size w wr) (fun _ t _ => (intOf t).toNat)
  case atStart => exact ⟨m, [], ls, bs.drop k, rfl, HD, by simp [Hid], by simpa using hmb, hr2, World.ownsRow_nil _ _ _ _, hb2⟩
  case round =>
    obtain ⟨j, ys, zs, rest, rfl, HZ, HY, hyj, hr, hown, hb⟩ := hrel
    clear hr2 hg2 hb2
    obtain ⟨wo, rfl⟩ : ∃ wo : World, wo = wr := ⟨_, rfl⟩
    have hsz := hb.size
    have hlt0 : w.heap.size < wo.heap.size := hr.lt
    cases j with
    | zero =>
      obtain ⟨hr0, hz0'⟩ := rdL_zero HZ.out
      obtain ⟨A1, n1, c1, hb1, hs1, _⟩ := hr
      have h0 : wo.cell? ⟨w.heap.size, 0, none⟩ = some (.slice A1 n1 c1) := hb1.at_ rfl
      have h1 : wo.cell? ⟨w.heap.size, 1, none⟩ = some (.bool false) := hb1.at_ rfl
      have hn1 : n1 = 0 := by
        have := hs1.blen
        rw [hr0] at this
        simpa using this.symm
      subst hn1
      have HF : Hid (ys = ls) := by have := HY.out; rw [hz0', List.append_nil] at this; exact this
      clear hb1 hs1 hr0 hz0'
      go_wp2_with fail
      try rw [Exit.noGoto_ret]
      go_ret2
      refine ⟨_, rfl, ?_, hb⟩
      rw [← HF.out]
      exact hown
    | succ j =>
      obtain ⟨a, r', zs', h1, h2, h3⟩ := rdL_more HZ.out
      have H1 := hide h1
      have H2 := hide h2
      have HY2 : Hid ((ys ++ [a]) ++ zs' = ls) := by have := HY.out; rw [h3] at this; simpa [Hid] using this
      clear h1 h2 h3
      obtain ⟨A2, c2, rfl⟩ := own_slice hown
      go_wp2_with fail
      refine (rd_oneI_yes _ hr H1.out).mono ?_
      rintro e w3 ⟨rfl, hr3, hg3⟩
      obtain ⟨hown3, hb3, hlt3⟩ := rd_call (by decide) hr hown hb hr3 hg3
      clear hown hb hg3 hr
      go_wp2_with (at_builtin; refine wpList_append_own _ rfl _ _ 46 rfl w.heap.size 3 i0 (.int .i64 0) 1 8 Try.underlying46 hi hz0 hz1 hz2 rfl (by decide) _ _ _ rfl (hown3.alloc _) ⟨w3.heap.size, 0, none⟩ 1 1 [.int .i64 a] rfl rfl ?c1 ?c2 ?c3 ?c4 ?c5 ?_)
      case c1 => exact news_one _ _ _
      case c2 => exact one_int64 _
      case c3 => unfold maxLen; omega
      case c4 => omega
      case c5 => simp; omega
      intro v4 w4 hown4 hg4 _
      obtain ⟨A4, c4, rfl⟩ := own_slice hown4
      obtain ⟨hr4, hb4⟩ := rd_grow (by decide) hr3 hown3 hb3 hg4
      have hown5 : w4.ownsRow w.heap.size 3 1 (.slice A4 (ys.length + 1) c4) (ys ++ [a]).length (ints (ys ++ [a])) := by
        have e : ints (ys ++ [a]) = ints ys ++ [.int .i64 a] := by simp [ints]
        rw [e, List.length_append]; exact hown4
      have hrr := hide hr4
      obtain ⟨A5, n5, c5, hb5, _⟩ := hr4
      have h1' : w4.cell? ⟨w.heap.size, 1, none⟩ = some (.bool false) := hb5.at_ rfl
      clear hown4 hg4 hown3 hb3 hr3 hb5
      go_wp2_with fail
      go_roundw
      case rel => exact ⟨j, ys ++ [a], zs', r', by go_num, H2, HY2, by simp; omega, hrr.out, hown5, hb4⟩
      case measure => simp [intOf]

set_option maxRecDepth 100000 in
set_option maxHeartbeats 2000000 in
theorem wire_listI_no {A : Option Addr} {n c : Nat} {bs : List UInt8} (w : World) (hs : Sl w 1 A n (bytes8 bs)) (hnc : n ≤ c) (hc : c ≤ 9223372036854775807) (hg : getI bs = none) :
    Calls Try.prog 81 #[.slice A n c, .func (.func 82) #[] #[]] w fun e w' => e = .returned (.tuple #[.slice none 0 0, .int .i64 1]) ∧ Below w.heap.size w w' := by
  obtain ⟨i0, hi, hz0, hz1, hz2⟩ := info_parts Try.infoInt
  obtain ⟨bad, hbad⟩ : ∃ bad, decide ((1048576 : Int) < (n : Int)) = bad := ⟨_, rfl⟩
  have HR : Hid (Rd (w.alloc (.cells #[.slice A n c, .bool bad] 129)) w.heap.size bs bad) := ⟨A, n, c, Blk.new w _ _, hs.alloc _, hnc, hc, fun h => by obtain ⟨b, off, e, hb, _⟩ := hs.2 h; exact ⟨b, off, e, hb⟩⟩
  have HB0 : Hid (Below w.heap.size w (w.alloc (.cells #[.slice A n c, .bool bad] 129))) := (Below.refl _ _).alloc (Nat.le_refl _) _
  have two : (bad = true ∨ cntN bs = none) ∨ (bad = false ∧ ∃ m k, cntN bs = some (m, k) ∧ m ≤ 1048576 ∧ rdL oneI m (bs.drop k) = none) := by
    cases hb : bad with
    | true => exact .inl (.inl rfl)
    | false =>
      rw [hb, decide_eq_false_iff_not] at hbad
      cases hcn : cntN bs with
      | none => exact .inl (.inr rfl)
      | some p =>
        obtain ⟨m, k⟩ := p
        have h1 := (cntN_some hcn).2
        rw [List.length_drop, hs.blen] at h1
        exact .inr ⟨rfl, m, k, rfl, by omega, getL_cnt_no hg (by rw [hs.blen]; omega) hcn⟩
  clear hg hs
  go_enter Try.func81, Try.ntmps81
  go_wp2_with fail
  refine scope_loop 0 (fun a w' => ∃ (u0 u1 u2 u3 u4 u5 u6 u7 u8 u9 u10 u11 u12 u13 u14 u15 u16 u17 u18 u19 u20 u21 u22 u23 u24 u25 u26 u27 u28 u29 u30 u31 u32 u33 u34 u35 u36 u37 u38 u39 u40 u41 u42 u43 : Value), a = { tmps := #[u0, u1, u2, u3, u4, u5, u6, u7, u8, u9, u10, u11, u12, u13, u14, u15, u16, u17, u18, u19, u20, u21, u22, u23, u24, u25, u26, u27, u28, u29, u30, u31, u32, u33, u34, u35, u36, u37, u38, u39, u40, u41, u42, u43], defers := [] } ∧ Below w.heap.size w w') (fun _ _ => 0) rfl ?_ ?_
  · rintro a w' ⟨u0, u1, u2, u3, u4, u5, u6, u7, u8, u9, u10, u11, u12, u13, u14, u15, u16, u17, u18, u19, u20, u21, u22, u23, u24, u25, u26, u27, u28, u29, u30, u31, u32, u33, u34, u35, u36, u37, u38, u39, u40, u41, u42, u43, rfl, hb⟩
    clear two HB0 HR hbad
    go_wp2_with fail
    try rw [Exit.jump_ret]
    go_ret2
    exact ⟨rfl, hb⟩
  · intro H
    rcases two with two | ⟨rfl, m, k, hcn, hm, hrd⟩
    · go_wp2_with fail
      refine (rd_count_no _ HR.out two).mono ?_
      rintro e w2 ⟨rfl, ⟨bs', hr2⟩, hg2⟩
      have hb2 : Below w.heap.size w w2 := HB0.out.grown hg2 (by simp) (fun g hg' => by injection hg' with h; omega)
      obtain ⟨A1, n1, c1, hb1, _⟩ := hr2
      have h1' : w2.cell? ⟨w.heap.size, 1, none⟩ = some (.bool true) := hb1.at_ rfl
      clear hg2 hb1 two HR HB0 hbad
      go_wp2_with fail
      go_loopw [4, 7] (fun l t wr => t = .int .i64 0 ∧ w2 = wr) (fun _ t _ => (intOf t).toNat)
      case atStart => exact ⟨rfl, rfl⟩
      case round =>
        obtain ⟨rfl, rfl⟩ := hrel
        go_wp2_with fail
        go_step3
        rename_i hk
        exact hk _ _ (H _ _ ⟨_, _, _, _, _, _, _, _, _, _, _, _, _, _, _, _, _, _, _, _, _, _, _, _, _, _, _, _, _, _, _, _, _, _, _, _, _, _, _, _, _, _, _, _, rfl, hb2⟩)
    · have HC := hide hcn
      have HD := hide hrd
      clear hcn hrd
      go_wp2_with fail
      refine (rd_count_yes _ HR.out HC.out).mono ?_
      rintro e w2 ⟨rfl, hr2, hg2⟩
      have hb2 : Below w.heap.size w w2 := HB0.out.grown hg2 (by simp) (fun g hg' => by injection hg' with h; omega)
      clear hg2 HR HB0 hbad
      go_wp2_with fail
      go_loopw [4, 7] (fun l t wr => ∃ (j : Nat) (ys : List Int) (rest : List UInt8), t = .int .i64 j ∧ Hid (rdL oneI j rest = none) ∧ ys.length + j ≤ 1048576 ∧ Rd wr w.heap.size rest false ∧ wr.ownsRow w.heap.size 3 1 l ys.length (ints ys) ∧ Below w.heap.size w wr) (fun _ t _ => (intOf t).toNat)
      case atStart => exact ⟨m, [], bs.drop k, rfl, HD, by simpa using hm, hr2, World.ownsRow_nil _ _ _ _, hb2⟩
      case round =>
        obtain ⟨j, ys, rest, rfl, HZ, hyj, hr, hown, hb⟩ := hrel
        clear hr2 hb2
        obtain ⟨wo, rfl⟩ : ∃ wo : World, wo = wr := ⟨_, rfl⟩
        have hsz := hb.size
        have hlt0 : w.heap.size < wo.heap.size := hr.lt
        cases j with
        | zero =>
          have hpos := rdL_zero_no HZ.out
          obtain ⟨A1, n1, c1, hb1, hs1, _⟩ := hr
          have h0 : wo.cell? ⟨w.heap.size, 0, none⟩ = some (.slice A1 n1 c1) := hb1.at_ rfl
          have h1 : wo.cell? ⟨w.heap.size, 1, none⟩ = some (.bool false) := hb1.at_ rfl
          have hn1 : ((n1 : Int) == 0) = false := by
            have := hs1.blen
            simp; omega
          clear hb1 hs1 hpos
          go_wp2_with fail
          go_step3
          rename_i hk
          exact hk _ _ (H _ _ ⟨_, _, _, _, _, _, _, _, _, _, _, _, _, _, _, _, _, _, _, _, _, _, _, _, _, _, _, _, _, _, _, _, _, _, _, _, _, _, _, _, _, _, _, _, rfl, hb⟩)
        | succ j =>
          obtain ⟨A2, c2, rfl⟩ := own_slice hown
          rcases rdL_less HZ.out with h1 | ⟨a, r', h1, h2⟩
          · have H1 := hide h1
            clear h1
            go_wp2_with fail
            refine (rd_oneI_no _ hr H1.out).mono ?_
            rintro e w3 ⟨⟨a, rfl⟩, ⟨r', hr3⟩, hg3⟩
            obtain ⟨hown3, hb3, hlt3⟩ := rd_call (by decide) hr hown hb hr3 hg3
            clear hown hb hg3 hr
            go_wp2_with (at_builtin; refine wpList_append_own _ rfl _ _ 46 rfl w.heap.size 3 i0 (.int .i64 0) 1 8 Try.underlying46 hi hz0 hz1 hz2 rfl (by decide) _ _ _ rfl (hown3.alloc _) ⟨w3.heap.size, 0, none⟩ 1 1 [.int .i64 a] rfl rfl (news_one _ _ _) (one_int64 _) (by unfold maxLen; omega) (by omega) (by simp; omega) ?_)
            intro v4 w4 hown4 hg4 _
            obtain ⟨hr4, hb4⟩ := rd_grow (by decide) hr3 hown3 hb3 hg4
            obtain ⟨A5, n5, c5, hb5, _⟩ := hr4
            have h1' : w4.cell? ⟨w.heap.size, 1, none⟩ = some (.bool true) := hb5.at_ rfl
            clear hown4 hg4 hown3 hb3 hr3 hb5
            go_wp2_with fail
            go_step3
            repeat (first | refine Exit.then_goto ?_ | refine Exit.inBlock_goto ?_)
            exact Exit.jump_goto ⟨_, _, _, _, _, _, _, _, _, _, _, _, _, _, _, _, _, _, _, _, _, _, _, _, _, _, _, _, _, _, _, _, _, _, _, _, _, _, _, _, _, _, _, _, rfl, hb4⟩
          · have H1 := hide h1
            have H2 := hide h2
            clear h1 h2
            go_wp2_with fail
            refine (rd_oneI_yes _ hr H1.out).mono ?_
            rintro e w3 ⟨rfl, hr3, hg3⟩
            obtain ⟨hown3, hb3, hlt3⟩ := rd_call (by decide) hr hown hb hr3 hg3
            clear hown hb hg3 hr
            go_wp2_with (at_builtin; refine wpList_append_own _ rfl _ _ 46 rfl w.heap.size 3 i0 (.int .i64 0) 1 8 Try.underlying46 hi hz0 hz1 hz2 rfl (by decide) _ _ _ rfl (hown3.alloc _) ⟨w3.heap.size, 0, none⟩ 1 1 [.int .i64 a] rfl rfl (news_one _ _ _) (one_int64 _) (by unfold maxLen; omega) (by omega) (by simp; omega) ?_)
            intro v4 w4 hown4 hg4 _
            obtain ⟨hr4, hb4⟩ := rd_grow (by decide) hr3 hown3 hb3 hg4
            have hown5 : w4.ownsRow w.heap.size 3 1 v4 (ys ++ [a]).length (ints (ys ++ [a])) := by
              have e : ints (ys ++ [a]) = ints ys ++ [.int .i64 a] := by simp [ints]
              rw [e, List.length_append]; exact hown4
            have hrr := hide hr4
            obtain ⟨A5, n5, c5, hb5, _⟩ := hr4
            have h1' : w4.cell? ⟨w.heap.size, 1, none⟩ = some (.bool false) := hb5.at_ rfl
            clear hown4 hg4 hown3 hb3 hr3 hb5
            go_wp2_with fail
            go_roundw
            case rel => exact ⟨j, ys ++ [a], r', by go_num, H2, by simp; omega, hrr.out, hown5, hb4⟩
            case measure => simp [intOf]

set_option maxHeartbeats 400000 in
theorem wire_GetNums_yes {A : Option Addr} {n c : Nat} {bs : List UInt8} {ls : List Int} (w : World) (hs : Sl w 1 A n (bytes8 bs)) (hnc : n ≤ c) (hc : c ≤ 9223372036854775807) (hg : getI bs = some ls) :
    Calls Try.prog 66 #[.slice A n c] w fun e w' => ∃ v, e = .returned (.tuple #[v, .int .i64 0]) ∧ w'.ownsRow w.heap.size 3 1 v ls.length (ints ls) ∧ Below w.heap.size w w' := by
  have HG := hide hg
  clear hg
  go_enter Try.func66, Try.ntmps66
  go_wp2_with fail
  refine (wire_listI_yes _ hs hnc hc HG.out).mono ?_
  rintro e w1 ⟨v, rfl, h1, h2⟩
  go_wp2_with fail
  go_ret2
  exact ⟨_, rfl, h1, h2⟩
set_option maxHeartbeats 400000 in
theorem wire_GetNums_no {A : Option Addr} {n c : Nat} {bs : List UInt8} (w : World) (hs : Sl w 1 A n (bytes8 bs)) (hnc : n ≤ c) (hc : c ≤ 9223372036854775807) (hg : getI bs = none) :
    Calls Try.prog 66 #[.slice A n c] w fun e w' => e = .returned (.tuple #[.slice none 0 0, .int .i64 1]) ∧ Below w.heap.size w w' := by
  have HG := hide hg
  clear hg
  go_enter Try.func66, Try.ntmps66
  go_wp2_with fail
  refine (wire_listI_no _ hs hnc hc HG.out).mono ?_
  rintro e w1 ⟨rfl, h2⟩
  go_wp2_with fail
  go_ret2
  exact ⟨rfl, h2⟩
end Go.Proofs.Ytflamhndmggiaaa
