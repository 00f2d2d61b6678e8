/-
  Texts joined: words and contracts that later texts use; lemmas alone, no conditions of a statement.
-/
import Derived.Test.YtmnogefpphonlaaGr04
import Derived.StillTailTactics
import Derived.Test.YtmnogefpphonlaaGr03
import Derived.Test.YtmnogefpphonlaaGr02
set_option linter.unusedVariables false
set_option linter.unusedSimpArgs false
/-
  Contracts of reading numbers: wire's own: what bytes are read as, or none.
-/
namespace Go.Proofs.Ytmnogefpphonlaa
open Go.RowKit


set_option maxRecDepth 100000 in
set_option maxHeartbeats 1000000 in
theorem wire_listI_yes {A : Option Addr} {n c : Nat} {bs : List UInt8} {ls : List Int} (w : World) (hs : Sl w 1 A n (bytes8 bs)) (hnc : n ≤ c) (hc : c ≤ 9223372036854775807) (hg : getI bs = some ls) :
    Calls Try.prog 55 #[.slice A n c, .func (.func 56) #[] #[]] w fun e w' => ∃ v, e = .returned (.tuple #[v, .int .i64 0]) ∧ w'.ownsRow w.heap.size 3 1 v ls.length (ints ls) ∧ Below w.heap.size w w' := by
  obtain ⟨hb, m, k, hcnt, hrd⟩ := getL_cnt hg
  obtain ⟨i0, hi, hz0, hz1, hz2⟩ := info_parts Try.infoInt
  have hn : n ≤ 1048576 := by rw [hs.blen] at hb; exact hb
  have hd : decide ((1048576 : Int) < (n : Int)) = false := by rw [decide_eq_false_iff_not]; omega
  have HR : Hid (Rd (w.alloc (.cells #[.slice A n c, .bool false] 108)) w.heap.size bs false) := ⟨A, n, c, Blk.new w _ _, hs.alloc _, hnc, hc, fun h => by obtain ⟨b, off, e, hb, _⟩ := hs.2 h; exact ⟨b, off, e, hb⟩⟩
  have HC := hide hcnt
  have HD := hide hrd
  have HB0 : Hid (Below w.heap.size w (w.alloc (.cells #[.slice A n c, .bool false] 108))) := (Below.refl _ _).alloc (Nat.le_refl _) _
  have hmb : m ≤ 1048576 := by
    have h1 := (cntN_some hcnt).2
    rw [List.length_drop] at h1
    omega
  clear hg hcnt hrd hb hs
  go_enter Try.func55, Try.ntmps55
  go_wp2_with fail
  go_step3
  go_wp2_with (go_at_call 76; refine (rd_count_yes _ HR.out HC.out).mono ?_; rintro e w2 ⟨rfl, hr2, hg2⟩)
  have hb2 : Below w.heap.size w w2 := HB0.out.grown hg2 (by simp) (fun g hg' => by injection hg' with h; omega)
  go_loopw [4, 7] (fun l t wr => ∃ (j : Nat) (ys zs : List Int) (rest : List UInt8), t = .int .i64 j ∧ Hid (rdL oneI j rest = some zs) ∧ Hid (ys ++ zs = ls) ∧ ys.length + j ≤ 1048576 ∧ Rd wr w.heap.size rest false ∧ wr.ownsRow w.heap.size 3 1 l ys.length (ints ys) ∧ Below w.heap.size w wr) (fun _ t _ => (intOf t).toNat)
  case atStart => exact ⟨m, [], ls, bs.drop k, rfl, HD, by simp [Hid], by simpa using hmb, hr2, World.ownsRow_nil _ _ _ _, hb2⟩
  case round =>
    obtain ⟨j, ys, zs, rest, rfl, HZ, HY, hyj, hr, hown, hb⟩ := hrel
    clear hr2 hg2 hb2
    obtain ⟨wo, rfl⟩ : ∃ wo : World, wo = wr := ⟨_, rfl⟩
    have hsz := hb.size
    have hlt0 : w.heap.size < wo.heap.size := hr.lt
    cases j with
    | zero =>
      obtain ⟨hr0, hz0'⟩ := rdL_zero HZ.out
      obtain ⟨A1, n1, c1, hb1, hs1, _⟩ := hr
      have h0 : wo.cell? ⟨w.heap.size, 0, none⟩ = some (.slice A1 n1 c1) := hb1.at_ rfl
      have h1 : wo.cell? ⟨w.heap.size, 1, none⟩ = some (.bool false) := hb1.at_ rfl
      have hn1 : n1 = 0 := by
        have := hs1.blen
        rw [hr0] at this
        simpa using this.symm
      subst hn1
      have HF : Hid (ys = ls) := by have := HY.out; rw [hz0', List.append_nil] at this; exact this
      clear hb1 hs1 hr0 hz0'
      go_wp2_with fail
      try rw [Exit.noGoto_ret]
      go_ret2
      refine ⟨_, rfl, ?_, hb⟩
      rw [← HF.out]
      exact hown
    | succ j =>
      obtain ⟨a, r', zs', h1, h2, h3⟩ := rdL_more HZ.out
      have H1 := hide h1
      have H2 := hide h2
      have HY2 : Hid ((ys ++ [a]) ++ zs' = ls) := by have := HY.out; rw [h3] at this; simpa [Hid] using this
      clear h1 h2 h3
      obtain ⟨A2, c2, rfl⟩ := own_slice hown
      go_wp2_with fail
      refine (rd_oneI_yes _ hr H1.out).mono ?_
      rintro e w3 ⟨rfl, hr3, hg3⟩
      obtain ⟨hown3, hb3, hlt3⟩ := rd_call (by decide) hr hown hb hr3 hg3
      clear hown hb hg3 hr
      go_wp2_with (at_builtin; refine wpList_append_own _ rfl _ _ 26 rfl w.heap.size 3 i0 (.int .i64 0) 1 8 Try.underlying26 hi hz0 hz1 hz2 rfl (by decide) _ _ _ rfl (hown3.alloc _) ⟨w3.heap.size, 0, none⟩ 1 1 [.int .i64 a] rfl rfl ?c1 ?c2 ?c3 ?c4 ?c5 ?_)
      case c1 => exact news_one _ _ _
      case c2 => exact one_int64 _
      case c3 => unfold maxLen; omega
      case c4 => omega
      case c5 => simp; omega
      intro v4 w4 hown4 hg4 _
      obtain ⟨A4, c4, rfl⟩ := own_slice hown4
      obtain ⟨hr4, hb4⟩ := rd_grow (by decide) hr3 hown3 hb3 hg4
      have hown5 : w4.ownsRow w.heap.size 3 1 (.slice A4 (ys.length + 1) c4) (ys ++ [a]).length (ints (ys ++ [a])) := by
        have e : ints (ys ++ [a]) = ints ys ++ [.int .i64 a] := by simp [ints]
        rw [e, List.length_append]; exact hown4
      have hrr := hide hr4
      obtain ⟨A5, n5, c5, hb5, _⟩ := hr4
      have h1' : w4.cell? ⟨w.heap.size, 1, none⟩ = some (.bool false) := hb5.at_ rfl
      clear hown4 hg4 hown3 hb3 hr3 hb5
      go_wp2_with fail
      go_roundw
      case rel => exact ⟨j, ys ++ [a], zs', r', by go_num, H2, HY2, by simp; omega, hrr.out, hown5, hb4⟩
      case measure => simp [intOf]

set_option maxRecDepth 100000 in
set_option maxHeartbeats 2000000 in
theorem wire_listI_no {A : Option Addr} {n c : Nat} {bs : List UInt8} (w : World) (hs : Sl w 1 A n (bytes8 bs)) (hnc : n ≤ c) (hc : c ≤ 9223372036854775807) (hg : getI bs = none) :
    Calls Try.prog 55 #[.slice A n c, .func (.func 56) #[] #[]] w fun e w' => e = .returned (.tuple #[.slice none 0 0, .int .i64 1]) ∧ Below w.heap.size w w' := by
  obtain ⟨i0, hi, hz0, hz1, hz2⟩ := info_parts Try.infoInt
  obtain ⟨bad, hbad⟩ : ∃ bad, decide ((1048576 : Int) < (n : Int)) = bad := ⟨_, rfl⟩
  have HR : Hid (Rd (w.alloc (.cells #[.slice A n c, .bool bad] 108)) w.heap.size bs bad) := ⟨A, n, c, Blk.new w _ _, hs.alloc _, hnc, hc, fun h => by obtain ⟨b, off, e, hb, _⟩ := hs.2 h; exact ⟨b, off, e, hb⟩⟩
  have HB0 : Hid (Below w.heap.size w (w.alloc (.cells #[.slice A n c, .bool bad] 108))) := (Below.refl _ _).alloc (Nat.le_refl _) _
  have two : (bad = true ∨ cntN bs = none) ∨ (bad = false ∧ ∃ m k, cntN bs = some (m, k) ∧ m ≤ 1048576 ∧ rdL oneI m (bs.drop k) = none) := by
    cases hb : bad with
    | true => exact .inl (.inl rfl)
    | false =>
      rw [hb, decide_eq_false_iff_not] at hbad
      cases hcn : cntN bs with
      | none => exact .inl (.inr rfl)
      | some p =>
        obtain ⟨m, k⟩ := p
        have h1 := (cntN_some hcn).2
        rw [List.length_drop, hs.blen] at h1
        exact .inr ⟨rfl, m, k, rfl, by omega, getL_cnt_no hg (by rw [hs.blen]; omega) hcn⟩
  clear hg hs
  go_enter Try.func55, Try.ntmps55
  go_wp2_with fail
  refine scope_loop 0 (fun a w' => ∃ (u0 u1 u2 u3 u4 u5 u6 u7 u8 u9 u10 u11 u12 u13 u14 u15 u16 u17 u18 u19 u20 u21 u22 u23 u24 u25 u26 u27 u28 u29 u30 u31 u32 u33 u34 u35 u36 u37 u38 u39 u40 u41 u42 u43 : Value), a = { tmps := #[u0, u1, u2, u3, u4, u5, u6, u7, u8, u9, u10, u11, u12, u13, u14, u15, u16, u17, u18, u19, u20, u21, u22, u23, u24, u25, u26, u27, u28, u29, u30, u31, u32, u33, u34, u35, u36, u37, u38, u39, u40, u41, u42, u43], defers := [] } ∧ Below w.heap.size w w') (fun _ _ => 0) rfl ?_ ?_
  · rintro a w' ⟨u0, u1, u2, u3, u4, u5, u6, u7, u8, u9, u10, u11, u12, u13, u14, u15, u16, u17, u18, u19, u20, u21, u22, u23, u24, u25, u26, u27, u28, u29, u30, u31, u32, u33, u34, u35, u36, u37, u38, u39, u40, u41, u42, u43, rfl, hb⟩
    clear two HB0 HR hbad
    go_wp2_with fail
    try rw [Exit.jump_ret]
    go_ret2
    exact ⟨rfl, hb⟩
  · intro H
    rcases two with two | ⟨rfl, m, k, hcn, hm, hrd⟩
    · go_wp2_with fail
      refine (rd_count_no _ HR.out two).mono ?_
      rintro e w2 ⟨rfl, ⟨bs', hr2⟩, hg2⟩
      have hb2 : Below w.heap.size w w2 := HB0.out.grown hg2 (by simp) (fun g hg' => by injection hg' with h; omega)
      obtain ⟨A1, n1, c1, hb1, _⟩ := hr2
      have h1' : w2.cell? ⟨w.heap.size, 1, none⟩ = some (.bool true) := hb1.at_ rfl
      clear hg2 hb1 two HR HB0 hbad
      go_wp2_with fail
      go_loopw [4, 7] (fun l t wr => t = .int .i64 0 ∧ w2 = wr) (fun _ t _ => (intOf t).toNat)
      case atStart => exact ⟨rfl, rfl⟩
      case round =>
        obtain ⟨rfl, rfl⟩ := hrel
        go_wp2_with fail
        go_step3
        rename_i hk
        exact hk _ _ (H _ _ ⟨_, _, _, _, _, _, _, _, _, _, _, _, _, _, _, _, _, _, _, _, _, _, _, _, _, _, _, _, _, _, _, _, _, _, _, _, _, _, _, _, _, _, _, _, rfl, hb2⟩)
    · have HC := hide hcn
      have HD := hide hrd
      clear hcn hrd
      go_wp2_with fail
      refine (rd_count_yes _ HR.out HC.out).mono ?_
      rintro e w2 ⟨rfl, hr2, hg2⟩
      have hb2 : Below w.heap.size w w2 := HB0.out.grown hg2 (by simp) (fun g hg' => by injection hg' with h; omega)
      clear hg2 HR HB0 hbad
      go_wp2_with fail
      go_loopw [4, 7] (fun l t wr => ∃ (j : Nat) (ys : List Int) (rest : List UInt8), t = .int .i64 j ∧ Hid (rdL oneI j rest = none) ∧ ys.length + j ≤ 1048576 ∧ Rd wr w.heap.size rest false ∧ wr.ownsRow w.heap.size 3 1 l ys.length (ints ys) ∧ Below w.heap.size w wr) (fun _ t _ => (intOf t).toNat)
      case atStart => exact ⟨m, [], bs.drop k, rfl, HD, by simpa using hm, hr2, World.ownsRow_nil _ _ _ _, hb2⟩
      case round =>
        obtain ⟨j, ys, rest, rfl, HZ, hyj, hr, hown, hb⟩ := hrel
        clear hr2 hb2
        obtain ⟨wo, rfl⟩ : ∃ wo : World, wo = wr := ⟨_, rfl⟩
        have hsz := hb.size
        have hlt0 : w.heap.size < wo.heap.size := hr.lt
        cases j with
        | zero =>
          have hpos := rdL_zero_no HZ.out
          obtain ⟨A1, n1, c1, hb1, hs1, _⟩ := hr
          have h0 : wo.cell? ⟨w.heap.size, 0, none⟩ = some (.slice A1 n1 c1) := hb1.at_ rfl
          have h1 : wo.cell? ⟨w.heap.size, 1, none⟩ = some (.bool false) := hb1.at_ rfl
          have hn1 : ((n1 : Int) == 0) = false := by
            have := hs1.blen
            simp; omega
          clear hb1 hs1 hpos
          go_wp2_with fail
          go_step3
          rename_i hk
          exact hk _ _ (H _ _ ⟨_, _, _, _, _, _, _, _, _, _, _, _, _, _, _, _, _, _, _, _, _, _, _, _, _, _, _, _, _, _, _, _, _, _, _, _, _, _, _, _, _, _, _, _, rfl, hb⟩)
        | succ j =>
          obtain ⟨A2, c2, rfl⟩ := own_slice hown
          rcases rdL_less HZ.out with h1 | ⟨a, r', h1, h2⟩
          · have H1 := hide h1
            clear h1
            go_wp2_with fail
            refine (rd_oneI_no _ hr H1.out).mono ?_
            rintro e w3 ⟨⟨a, rfl⟩, ⟨r', hr3⟩, hg3⟩
            obtain ⟨hown3, hb3, hlt3⟩ := rd_call (by decide) hr hown hb hr3 hg3
            clear hown hb hg3 hr
            go_wp2_with (at_builtin; refine wpList_append_own _ rfl _ _ 26 rfl w.heap.size 3 i0 (.int .i64 0) 1 8 Try.underlying26 hi hz0 hz1 hz2 rfl (by decide) _ _ _ rfl (hown3.alloc _) ⟨w3.heap.size, 0, none⟩ 1 1 [.int .i64 a] rfl rfl (news_one _ _ _) (one_int64 _) (by unfold maxLen; omega) (by omega) (by simp; omega) ?_)
            intro v4 w4 hown4 hg4 _
            obtain ⟨hr4, hb4⟩ := rd_grow (by decide) hr3 hown3 hb3 hg4
            obtain ⟨A5, n5, c5, hb5, _⟩ := hr4
            have h1' : w4.cell? ⟨w.heap.size, 1, none⟩ = some (.bool true) := hb5.at_ rfl
            clear hown4 hg4 hown3 hb3 hr3 hb5
            go_wp2_with fail
            go_step3
            repeat (first | refine Exit.then_goto ?_ | refine Exit.inBlock_goto ?_)
            exact Exit.jump_goto ⟨_, _, _, _, _, _, _, _, _, _, _, _, _, _, _, _, _, _, _, _, _, _, _, _, _, _, _, _, _, _, _, _, _, _, _, _, _, _, _, _, _, _, _, _, rfl, hb4⟩
          · have H1 := hide h1
            have H2 := hide h2
            clear h1 h2
            go_wp2_with fail
            refine (rd_oneI_yes _ hr H1.out).mono ?_
            rintro e w3 ⟨rfl, hr3, hg3⟩
            obtain ⟨hown3, hb3, hlt3⟩ := rd_call (by decide) hr hown hb hr3 hg3
            clear hown hb hg3 hr
            go_wp2_with (at_builtin; refine wpList_append_own _ rfl _ _ 26 rfl w.heap.size 3 i0 (.int .i64 0) 1 8 Try.underlying26 hi hz0 hz1 hz2 rfl (by decide) _ _ _ rfl (hown3.alloc _) ⟨w3.heap.size, 0, none⟩ 1 1 [.int .i64 a] rfl rfl (news_one _ _ _) (one_int64 _) (by unfold maxLen; omega) (by omega) (by simp; omega) ?_)
            intro v4 w4 hown4 hg4 _
            obtain ⟨hr4, hb4⟩ := rd_grow (by decide) hr3 hown3 hb3 hg4
            have hown5 : w4.ownsRow w.heap.size 3 1 v4 (ys ++ [a]).length (ints (ys ++ [a])) := by
              have e : ints (ys ++ [a]) = ints ys ++ [.int .i64 a] := by simp [ints]
              rw [e, List.length_append]; exact hown4
            have hrr := hide hr4
            obtain ⟨A5, n5, c5, hb5, _⟩ := hr4
            have h1' : w4.cell? ⟨w.heap.size, 1, none⟩ = some (.bool false) := hb5.at_ rfl
            clear hown4 hg4 hown3 hb3 hr3 hb5
            go_wp2_with fail
            go_roundw
            case rel => exact ⟨j, ys ++ [a], r', by go_num, H2, by simp; omega, hrr.out, hown5, hb4⟩
            case measure => simp [intOf]

set_option maxHeartbeats 400000 in
theorem wire_GetNums_yes {A : Option Addr} {n c : Nat} {bs : List UInt8} {ls : List Int} (w : World) (hs : Sl w 1 A n (bytes8 bs)) (hnc : n ≤ c) (hc : c ≤ 9223372036854775807) (hg : getI bs = some ls) :
    Calls Try.prog 31 #[.slice A n c] w fun e w' => ∃ v, e = .returned (.tuple #[v, .int .i64 0]) ∧ w'.ownsRow w.heap.size 3 1 v ls.length (ints ls) ∧ Below w.heap.size w w' := by
  have HG := hide hg
  clear hg
  go_enter Try.func31, Try.ntmps31
  go_wp2_with fail
  refine (wire_listI_yes _ hs hnc hc HG.out).mono ?_
  rintro e w1 ⟨v, rfl, h1, h2⟩
  go_wp2_with fail
  go_ret2
  exact ⟨_, rfl, h1, h2⟩
set_option maxHeartbeats 400000 in
theorem wire_GetNums_no {A : Option Addr} {n c : Nat} {bs : List UInt8} (w : World) (hs : Sl w 1 A n (bytes8 bs)) (hnc : n ≤ c) (hc : c ≤ 9223372036854775807) (hg : getI bs = none) :
    Calls Try.prog 31 #[.slice A n c] w fun e w' => e = .returned (.tuple #[.slice none 0 0, .int .i64 1]) ∧ Below w.heap.size w w' := by
  have HG := hide hg
  clear hg
  go_enter Try.func31, Try.ntmps31
  go_wp2_with fail
  refine (wire_listI_no _ hs hnc hc HG.out).mono ?_
  rintro e w1 ⟨rfl, h2⟩
  go_wp2_with fail
  go_ret2
  exact ⟨rfl, h2⟩
end Go.Proofs.Ytmnogefpphonlaa
/-
  Contracts of the statements' spoilers (answers are written over), and of the references' lists of numbers.
-/
namespace Go.Proofs.Ytmnogefpphonlaa
open Go.RowKit

theorem xor_all : ∀ a : Fin 256, bits BinOp.xor IntKind.u8 ((a.val : Nat) : Int) 85 = ((a.val ^^^ 85 : Nat) : Int) := by decide +kernel
theorem xor_u8 (c : UInt8) : bits BinOp.xor IntKind.u8 (c.toNat : Int) 85 = ((c ^^^ 85 : UInt8).toNat : Int) := by
  have h := xor_all ⟨c.toNat, c.toNat_lt⟩
  rw [UInt8.toNat_xor]
  exact h
theorem below_set {B : Nat} {w wr : World} (h : Below B w wr) {g i : Nat} (hg : B ≤ g) (u : Value) : Below B w (wr.setCell ⟨g, i, none⟩ u) := h.setCell hg u



end Go.Proofs.Ytmnogefpphonlaa
/-
  Small words for the walks of the laws.
-/
namespace Go.Proofs.Ytmnogefpphonlaa
open Go.RowKit

theorem below_then {w w1 w2 : World} (h : Below w.heap.size w w1) (h' : Below w1.heap.size w1 w2) : Below w.heap.size w w2 := h.trans (h'.mono h.size)
theorem own_drewN {w : World} {base size n : Nat} {e : TypeId} {v : Value} {xs : List Value} (h : w.ownsRow base e size v n xs) (q : Nat) : (w.drewN q).ownsRow base e size v n xs := h
theorem quiet_below {P : Program} {f : FuncId} {args : Array Value} {w : World} {v : Value} (h : Calls P f args w fun e w' => e = .returned v ∧ ∃ q, w' = w.drewN q) :
    Calls P f args w fun e w' => e = .returned v ∧ Below w.heap.size w w' := by
  refine h.mono ?_
  rintro e w' ⟨he, q, rfl⟩
  exact ⟨he, below_drewN (Below.refl _ _) q⟩
theorem same_below {P : Program} {f : FuncId} {args : Array Value} {w : World} {v : Value} (h : Calls P f args w fun e w' => e = .returned v ∧ w = w') :
    Calls P f args w fun e w' => e = .returned v ∧ Below w.heap.size w w' := by
  refine h.mono ?_
  rintro e w' ⟨he, rfl⟩
  exact ⟨he, Below.refl _ _⟩
theorem eqBytes_b {A B : Option Addr} {n c m d : Nat} {xs ys : List UInt8} (w : World) (hs : Sl w 1 A n (bytes8 xs)) (hn : n ≤ 9223372036854775807) (ht : Sl w 1 B m (bytes8 ys)) (hm : m ≤ 9223372036854775807) {r : Bool} (hr : Hid ((xs == ys) = r)) :
    Calls Try.prog 17 #[.slice A n c, .slice B m d] w fun e w' => e = .returned (.bool r) ∧ Below w.heap.size w w' := by
  rw [← hr.out]; exact quiet_below (ref0_EqBytes A B n c m d xs ys w hs hn ht hm)
theorem eqNumbers_b {A B : Option Addr} {n c m d : Nat} {xs ys : List Int} (w : World) (hs : Sl w 1 A n (ints xs)) (hn : n ≤ 9223372036854775807) (ht : Sl w 1 B m (ints ys)) (hm : m ≤ 9223372036854775807) {r : Bool} (hr : Hid (decide (xs = ys) = r)) :
    Calls Try.prog 38 #[.slice A n c, .slice B m d] w fun e w' => e = .returned (.bool r) ∧ Below w.heap.size w w' := by
  rw [← hr.out]; exact quiet_below (ref0_EqNumbers A B n c m d xs ys w hs hn ht hm)
theorem eq_self {α : Type} [DecidableEq α] (a : α) : Hid (decide (a = a) = true) := by simp [Hid]
theorem beq_self (a : List UInt8) : Hid ((a == a) = true) := by simp [Hid]
theorem Sl.of_blk {w : World} {g size n : Nat} {t : TypeId} {cs : Array Value} (h : Blk w g t cs) (hs : cs.size = n * size) : Sl w size (some ⟨g, 0, none⟩) n cs.toList := by
  refine ⟨by simpa using hs, fun _ => ⟨g, 0, rfl, h.lt, fun j u hu => ?_⟩⟩
  rw [Nat.zero_add, h.cell]
  simpa using hu
theorem own_of_blk {w : World} {base g size n : Nat} {e : TypeId} {cs : Array Value} (h : Blk w g e cs) (hb : base ≤ g) (hs : cs.size = n * size) (hm : n ≤ 9223372036854775807) : w.ownsRow base e size (.slice (some ⟨g, 0, none⟩) n n) n cs.toList :=
  ⟨by simpa using hs, .inr ⟨g, n, cs, rfl, hb, h, Nat.le_refl _, by unfold maxLen; omega, hs, by rw [← hs, ← Array.length_toList, List.take_length]⟩⟩
theorem own_mono {w : World} {base base' size n : Nat} {e : TypeId} {v : Value} {xs : List Value} (h : w.ownsRow base e size v n xs) (hb : base' ≤ base) : w.ownsRow base' e size v n xs := by
  refine ⟨h.1, ?_⟩
  rcases h.2 with h0 | ⟨g, cap, cur, hv, hbg, hg, hr⟩
  · exact .inl h0
  · exact .inr ⟨g, cap, cur, hv, Nat.le_trans hb hbg, hg, hr⟩
theorem Blk.new2 (w : World) (o : Obj) (t : TypeId) (cs : Array Value) : Blk ((w.alloc o).alloc (.cells cs t)) (w.heap.size + 1) t cs := by
  have h := Blk.new (w.alloc o) t cs
  rwa [show (w.alloc o).heap.size = w.heap.size + 1 by simp] at h
theorem Sl.two {w : World} {g : Nat} {x y : Value} (h0 : w.cell? ⟨g, 0, none⟩ = some x) (h1 : w.cell? ⟨g, 1, none⟩ = some y) : Sl w 1 (some ⟨g, 0, none⟩) 2 [x, y] := by
  refine ⟨rfl, fun _ => ⟨g, 0, rfl, lt_of_cell h0, fun j u hu => ?_⟩⟩
  rw [Nat.zero_add]
  match j, hu with
  | 0, hu => simp at hu; subst hu; exact h0
  | 1, hu => simp at hu; subst hu; exact h1
theorem Sl.two_str {w : World} {g : Nat} {x y : ByteArray} (h0 : w.cell? ⟨g, 0, none⟩ = some (.string x)) (h1 : w.cell? ⟨g, 1, none⟩ = some (.string y)) : Sl w 1 (some ⟨g, 0, none⟩) 2 (strs [x, y]) := Sl.two h0 h1
theorem Sl.two_int {w : World} {g : Nat} {x y : Int} (h0 : w.cell? ⟨g, 0, none⟩ = some (.int .i64 x)) (h1 : w.cell? ⟨g, 1, none⟩ = some (.int .i64 y)) : Sl w 1 (some ⟨g, 0, none⟩) 2 (ints [x, y]) := Sl.two h0 h1
theorem Sl.grown_old {w w' : World} {size n B : Nat} {A : Option Addr} {cs : List Value} {row : Option Nat} (h : Sl w size A n cs) (hg : w.grownBy w' row) (hB : ∀ b off, A = some ⟨b, off, none⟩ → B ≤ b) (hr : ∀ g, row = some g → g < B) : Sl w' size A n cs := by
  refine ⟨h.1, fun hn => ?_⟩
  obtain ⟨b, off, e, hb, hc⟩ := h.2 hn
  refine ⟨b, off, e, Nat.lt_of_lt_of_le hb hg.size, fun j u hu => ?_⟩
  have hne : some b ≠ row := by
    intro e2
    have := hr b e2.symm
    have := hB b off e
    omega
  rw [World.cell?_of_block (a := ⟨b, off + j, none⟩) (hg.block b hb hne)]
  exact hc j u hu
theorem EndL.none_ {α : Type} {t : TypeId} {f : α → Value} {w w' : World} {e : Ending} (h : EndL (α := α) t f none w e w') : ∃ v, e = .returned (.tuple #[v, .bool false]) ∧ Below w.heap.size w w' := by
  obtain ⟨v, h1, _, h2⟩ := h
  exact ⟨v, h1, h2⟩
theorem EndL.none2_ {α : Type} {t : TypeId} {f : α → Value} {w w' : World} {e : Ending} (h : EndL (α := α) t f none w e w') : ∃ A n c, e = .returned (.tuple #[.slice A n c, .bool false]) ∧ Below w.heap.size w w' := by
  obtain ⟨v, h1, ⟨A, n, c, rfl⟩, h2⟩ := h
  exact ⟨A, n, c, h1, h2⟩
theorem EndL.some_ {α : Type} {t : TypeId} {f : α → Value} {l : List α} {w w' : World} {e : Ending} (h : EndL t f (some l) w e w') : ∃ v, e = .returned (.tuple #[v, .bool true]) ∧ w'.ownsRow w.heap.size t 1 v l.length (l.map f) ∧ Below w.heap.size w w' := h
end Go.Proofs.Ytmnogefpphonlaa
/-
  Contracts: texts that are numbers, read into variables: wire's; one: the reference's.
-/
namespace Go.Proofs.Ytmnogefpphonlaa
open Go.RowKit

/-- The numbers that texts are. -/
def wholes : List ByteArray → Option (List Int)
  | [] => some []
  | s :: r =>
    match wholeN s, wholes r with
    | some z, some l => some (z :: l)
    | _, _ => none
theorem wholes_snoc : ∀ (l : List ByteArray) (s : ByteArray), wholes (l ++ [s]) = (match wholes l, wholeN s with | some zs, some z => some (zs ++ [z]) | _, _ => none)
  | [], s => by
    rw [List.nil_append, wholes, wholes]
    cases wholeN s <;> rfl
  | a :: l, s => by
    rw [List.cons_append, wholes, wholes_snoc l s, wholes]
    cases wholeN a <;> cases wholes l <;> cases wholeN s <;> rfl
theorem wholes_none : ∀ (l r : List ByteArray), wholes l = none → wholes (l ++ r) = none
  | [], r, h => by simp [wholes] at h
  | a :: l, r, h => by
    rw [wholes] at h
    rw [List.cons_append, wholes]
    cases ha : wholeN a with
    | none => rfl
    | some z =>
      cases hl : wholes l with
      | none => rw [wholes_none l r hl]
      | some zs => rw [ha, hl] at h; simp at h
theorem wholes_len : ∀ (l : List ByteArray) (zs : List Int), wholes l = some zs → zs.length = l.length
  | [], zs, h => by rw [wholes] at h; injection h with h; subst h; rfl
  | a :: l, zs, h => by
    rw [wholes] at h
    cases ha : wholeN a with
    | none => rw [ha] at h; simp at h
    | some z =>
      cases hl : wholes l with
      | none => rw [ha, hl] at h; simp at h
      | some zs' =>
        rw [ha, hl] at h
        simp only [Option.some.injEq] at h
        subst h
        simp [wholes_len l zs' hl]
/-- Cells of a block set, one by one. -/
def setAll (cs : Array Value) : List Nat → List Int → Array Value
  | o :: os, z :: zs => setAll (cs.setIfInBounds o (.int .i64 z)) os zs
  | _, _ => cs
theorem setAll_snoc : ∀ (os : List Nat) (zs : List Int) (cs : Array Value) (o : Nat) (z : Int), os.length = zs.length → setAll cs (os ++ [o]) (zs ++ [z]) = (setAll cs os zs).setIfInBounds o (.int .i64 z)
  | [], [], cs, o, z, _ => rfl
  | a :: os, b :: zs, cs, o, z, h => by
    rw [List.cons_append, List.cons_append, setAll, setAll]
    exact setAll_snoc os zs _ o z (by simpa using h)
theorem setAll_size : ∀ (os : List Nat) (zs : List Int) (cs : Array Value), (setAll cs os zs).size = cs.size
  | [], zs, cs => by cases zs <;> rfl
  | a :: os, [], cs => rfl
  | a :: os, b :: zs, cs => by rw [setAll, setAll_size os zs, Array.size_setIfInBounds]
def ptrs (g : Nat) (os : List Nat) : List Value := os.map fun o => .pointer (some ⟨g, o, none⟩)
theorem grown_of_below {w w' : World} (h : Below w.heap.size w w') (row : Option Nat) : w.grownBy w' row := ⟨h.os, h.tape, h.output, h.size, fun k hk _ => h.block k hk⟩
theorem Sl.grown_ne {w w' : World} {size n : Nat} {A : Option Addr} {cs : List Value} {g : Nat} (h : Sl w size A n cs) (hg : w.grownBy w' (some g)) (hA : ∀ b off, 0 < n → A = some ⟨b, off, none⟩ → b ≠ g) : Sl w' size A n cs := by
  refine ⟨h.1, fun hn => ?_⟩
  obtain ⟨b, off, e, hb, hc⟩ := h.2 hn
  refine ⟨b, off, e, Nat.lt_of_lt_of_le hb hg.size, fun j u hu => ?_⟩
  rw [World.cell?_of_block (a := ⟨b, off + j, none⟩) (hg.block b hb (by intro e2; injection e2 with e2; exact hA b off hn e e2))]
  exact hc j u hu
theorem Sl.ptr {w : World} {n g : Nat} {A : Option Addr} {os : List Nat} (h : Sl w 1 A n (ptrs g os)) {k : Nat} (hk : k < n) : ∃ b off o, A = some ⟨b, off, none⟩ ∧ Hid (os[k]? = some o) ∧ w.cell? ⟨b, off + k, none⟩ = some (.pointer (some ⟨g, o, none⟩)) := by
  obtain ⟨b, off, e, hb, hc⟩ := h.2 (by omega)
  have hl : k < os.length := by have := h.1; simp [ptrs] at this; omega
  exact ⟨b, off, os[k], e, List.getElem?_eq_getElem hl, hc k _ (by simp [ptrs, List.getElem?_eq_getElem hl])⟩
set_option maxRecDepth 100000 in
set_option maxHeartbeats 2000000 in
theorem wire_Read {A B : Option Addr} {n c m d g : Nat} {t : TypeId} {cs : Array Value} {ls : List ByteArray} {os : List Nat} (w : World) (hs : Sl w 1 A n (strs ls)) (hp : Sl w 1 B m (ptrs g os)) (hb : Blk w g t cs) (hmn : m ≤ n) (hn : n ≤ 9223372036854775807)
    (hA : ∀ b off, 0 < n → A = some ⟨b, off, none⟩ → b ≠ g) (hB : ∀ b off, 0 < m → B = some ⟨b, off, none⟩ → b ≠ g) (hos : ∀ o ∈ os, o < cs.size) (hz : ∀ s ∈ ls, s.size ≤ 9223372036854775807) {r : Option (List Int)} (hr : Hid (wholes (ls.take m) = r)) :
    Calls Try.prog 28 #[.slice A n c, .slice B m d] w fun e w' => e = .returned (.bool r.isSome) ∧ w.grownBy w' (some g) ∧ Hid (∀ zs, r = some zs → Blk w' g t (setAll cs os zs)) := by
  have HL := hide hs.slen
  have HO := hide hos
  have HZ := hide hz
  have HPL : Hid (os.length = m) := by have := hp.1; simp [ptrs] at this; exact this
  have hd : decide ((n : Int) < (m : Int)) = false := by rw [decide_eq_false_iff_not]; omega
  have hd' : decide (n < m) = false := by rw [decide_eq_false_iff_not]; omega
  have HA := hide hA
  have HB := hide hB
  clear hos hz hA hB
  go_enter Try.func28, Try.ntmps28
  go_wp2_with fail
  go_loopw [17] (fun i wr => ∃ (k : Nat) (zs : List Int), k ≤ m ∧ i = .int .i64 k ∧ Hid (wholes (ls.take k) = some zs) ∧ w.grownBy wr (some g) ∧ Blk wr g t (setAll cs (os.take k) zs)) (fun i _ => m - (intOf i).toNat)
  case atStart => exact ⟨0, [], Nat.zero_le _, rfl, rfl, grown_refl _ _, by simpa [setAll] using hb⟩
  case round =>
    obtain ⟨k, zs, hk, rfl, HW, hgr, hbk⟩ := hrel
    obtain ⟨wo, rfl⟩ : ∃ wo : World, wo = wr := ⟨_, rfl⟩
    by_cases hlt : k < m
    · obtain ⟨b1, o1, o, rfl, HOK, hpc⟩ := (hp.grown_ne hgr HB.out).ptr hlt
      obtain ⟨b2, o2, s, rfl, HU, hsc, _⟩ := (hs.grown_ne hgr HA.out).str (k := k) (by omega)
      have hsz := HZ.out s (List.mem_of_getElem? HU.out)
      have HTK : Hid (ls.take (k + 1) = ls.take k ++ [s]) := take_at HU.out
      have hlen := wholes_len _ _ HW.out
      have hlk : (ls.take k).length = k := by rw [List.length_take, HL.out]; omega
      have HZK : Hid (zs.length = k) := by rw [Hid, hlen, hlk]
      obtain ⟨cap, w4, HCV, s4, hb5⟩ := conv_bytes (P := Try.prog) wo 9 33 5 s Try.underlying9 Try.underlying33 Try.underlying5
      have hsc4 := cell_later hb5 hsc
      have hbk4 := hbk.later hb5
      have hgr4 := grown_trans hgr (grown_of_below hb5 (some g))
      clear hs hp hbk hgr hb5 hlen hlk
      have bad : ∀ {x : Option Int}, wholeN s = x → x = none → Hid (r = none) := by
        intro x h1 h2
        have h3 : wholes (ls.take (k + 1)) = none := by rw [HTK.out, wholes_snoc, h1, h2]; cases wholes (ls.take k) <;> rfl
        have h4 : ls.take m = ls.take (k + 1) ++ (ls.take m).drop (k + 1) := by
          have := List.take_append_drop (k + 1) (ls.take m)
          rw [List.take_take, Nat.min_eq_left (by omega)] at this
          exact this.symm
        rw [Hid, ← hr.out, h4]
        exact wholes_none _ _ h3
      cases hg : getN s.data.toList with
      | none =>
        have HR := bad (x := wholeN s) rfl (by unfold wholeN; rw [hg])
        have HG := hide hg
        clear hg bad
        go_wp2_with fail
        refine (wire_GetNum_no _ s4 (by omega) HG.out).mono ?_
        rintro e w' ⟨rfl, rfl⟩
        go_wp2_with fail
        go_ret
        exact ⟨ret_bool (by rw [HR.out]; rfl), hgr4, fun zs h => by rw [HR.out] at h; cases h⟩
      | some p =>
        obtain ⟨x, y⟩ := p
        have HG := hide hg
        have hw : wholeN s = if y = s.size then some (x : Int) else none := by unfold wholeN; rw [hg]
        by_cases hy : y = s.size
        · rw [if_pos hy] at hw
          have HW2 : Hid (wholes (ls.take (k + 1)) = some (zs ++ [(x : Int)])) := by rw [Hid, HTK.out, wholes_snoc, HW.out, hw]
          have hos : o < cs.size := HO.out o (List.mem_of_getElem? HOK.out)
          have hx0 : (setAll cs (os.take k) zs)[o]? = some ((setAll cs (os.take k) zs)[o]'(by rw [setAll_size]; exact hos)) := Array.getElem?_eq_getElem _
          have hcell : ∃ u, w4.cell? ⟨g, o, none⟩ = some u := ⟨_, hbk4.at_ hx0⟩
          obtain ⟨u, hcell⟩ := hcell
          have hfr := hbk4.frozen o
          have HBK2 : Hid (Blk (w4.setCell ⟨g, o, none⟩ (.int .i64 x)) g t (setAll cs (os.take (k + 1)) (zs ++ [(x : Int)]))) := by
            rw [Hid, take_at HOK.out, setAll_snoc _ _ _ _ _ (by rw [List.length_take, HPL.out, HZK.out]; omega)]
            exact hbk4.set_ o _
          have HGR2 := hide (grown_trans hgr4 (grown_set w4 g o (.int .i64 x)))
          have hyb : ((y : Int) != (s.size : Int)) = false := by simp; omega
          clear hg hw hy hbk4 hgr4 hx0 bad
          go_wp2_with fail
          refine (wire_GetNum_yes _ s4 (by omega) HG.out).mono ?_
          rintro e w' ⟨rfl, rfl⟩
          clear s4
          go_wp2_with fail
          go_roundw
          case rel => exact ⟨k + 1, _, by omega, by go_num, HW2, HGR2.out, HBK2.out⟩
          case measure => simp [intOf]; omega
        · rw [if_neg hy] at hw
          have HR := bad hw rfl
          have hyb : ((y : Int) != (s.size : Int)) = true := by simp; omega
          clear hg hw hy hbk4 bad
          go_wp2_with fail
          refine (wire_GetNum_yes _ s4 (by omega) HG.out).mono ?_
          rintro e w' ⟨rfl, rfl⟩
          go_wp2_with fail
          go_ret
          exact ⟨ret_bool (by rw [HR.out]; rfl), hgr4, fun zs h => by rw [HR.out] at h; cases h⟩
    · obtain rfl : k = m := by omega
      have HR : Hid (r = some zs) := hr.out.symm.trans HW.out
      rw [List.take_of_length_le (by rw [HPL.out]; exact Nat.le_refl _)] at hbk
      go_wp2_with fail
      go_ret
      exact ⟨ret_bool (by rw [HR.out]; rfl), hgr, fun zs' h => by rw [HR.out] at h; injection h with h; subst h; exact hbk⟩
end Go.Proofs.Ytmnogefpphonlaa
