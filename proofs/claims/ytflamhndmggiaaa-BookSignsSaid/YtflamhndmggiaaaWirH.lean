
/-
  Contracts of reading texts and numbers: wire's own: what bytes are read as, or none.
-/
import Derived.Test.YtflamhndmggiaaaRd
import Derived.Test.YtflamhndmggiaaaStr0
namespace Go.Proofs.Ytflamhndmggiaaa
open Go.RowKit

theorem Try.infoInt : (Try.prog.info? 3).map (fun i => (i.zero, i.size, i.bytes)) = some (some (.int .i64 0), 1, 8) := by kernel_rfl
theorem one_int64 (n : Int) : ∀ u ∈ [Value.int .i64 n], u.oneCell' = true := by intro u hu; simp at hu; subst hu; rfl
theorem getL_cnt {α : Type} {one : List UInt8 → Option (α × List UInt8)} {bs : List UInt8} {l : List α} (h : getL one bs = some l) : bs.length ≤ 1048576 ∧ ∃ m k, cntN bs = some (m, k) ∧ rdL one m (bs.drop k) = some l := by
  unfold getL at h
  by_cases hb : 1048576 < bs.length
  · rw [if_pos hb] at h; cases h
  · rw [if_neg hb] at h
    cases hg : getN bs with
    | none => rw [hg] at h; cases h
    | some p =>
      obtain ⟨m, k⟩ := p
      rw [hg] at h
      simp only at h
      by_cases hm : m ≤ (bs.drop k).length
      · rw [if_pos hm] at h
        refine ⟨by omega, m, k, ?_, h⟩
        unfold cntN
        rw [hg]
        simp only
        rw [if_pos hm]
      · rw [if_neg hm] at h; cases h
theorem getL_cnt_no {α : Type} {one : List UInt8 → Option (α × List UInt8)} {bs : List UInt8} {m k : Nat} (h : getL one bs = none) (hb : bs.length ≤ 1048576) (hc : cntN bs = some (m, k)) : rdL one m (bs.drop k) = none := by
  obtain ⟨h1, h2⟩ := cntN_some hc
  unfold getL at h
  rw [if_neg (by omega), h1] at h
  simp only at h
  rw [if_pos h2] at h
  exact h
theorem rdL_more {α : Type} {one : List UInt8 → Option (α × List UInt8)} {n : Nat} {r : List UInt8} {l : List α} (h : rdL one (n + 1) r = some l) : ∃ a r' l', one r = some (a, r') ∧ rdL one n r' = some l' ∧ l = a :: l' := by
  rw [rdL] at h
  cases h1 : one r with
  | none => rw [h1] at h; cases h
  | some p =>
    obtain ⟨a, r'⟩ := p
    rw [h1] at h
    simp only at h
    cases h2 : rdL one n r' with
    | none => rw [h2] at h; cases h
    | some l' =>
      rw [h2] at h
      injection h with h
      exact ⟨a, r', l', rfl, h2, h.symm⟩
theorem rdL_less {α : Type} {one : List UInt8 → Option (α × List UInt8)} {n : Nat} {r : List UInt8} (h : rdL one (n + 1) r = none) : one r = none ∨ ∃ a r', one r = some (a, r') ∧ rdL one n r' = none := by
  rw [rdL] at h
  cases h1 : one r with
  | none => exact .inl rfl
  | some p =>
    obtain ⟨a, r'⟩ := p
    rw [h1] at h
    simp only at h
    cases h2 : rdL one n r' with
    | none => exact .inr ⟨a, r', rfl, h2⟩
    | some l' => rw [h2] at h; cases h
theorem rdL_zero {α : Type} {one : List UInt8 → Option (α × List UInt8)} {r : List UInt8} {l : List α} (h : rdL one 0 r = some l) : r = [] ∧ l = [] := by
  rw [rdL] at h
  by_cases hr : r = []
  · rw [if_pos hr] at h
    injection h with h
    exact ⟨hr, h.symm⟩
  · rw [if_neg hr] at h; cases h
theorem rdL_zero_no {α : Type} {one : List UInt8 → Option (α × List UInt8)} {r : List UInt8} (h : rdL one 0 r = none) : 0 < r.length := by
  rw [rdL] at h
  by_cases hr : r = []
  · rw [if_pos hr] at h; cases h
  · exact List.length_pos_iff.2 hr
theorem oneT_some {r : List UInt8} {a : ByteArray} {r' : List UInt8} (h : oneT r = some (a, r')) : ∃ m k, cntN r = some (m, k) ∧ a = tx ((r.drop k).take m) ∧ r' = (r.drop k).drop m := by
  unfold oneT at h
  unfold cntN
  cases hg : getN r with
  | none => rw [hg] at h; cases h
  | some p =>
    obtain ⟨m, k⟩ := p
    rw [hg] at h
    simp only at h ⊢
    by_cases hm : m ≤ (r.drop k).length
    · rw [if_pos hm] at h ⊢
      injection h with h
      injection h with e1 e2
      exact ⟨m, k, rfl, e1.symm, e2.symm⟩
    · rw [if_neg hm] at h; cases h
theorem oneT_none {r : List UInt8} (h : oneT r = none) : cntN r = none := by
  unfold oneT at h
  unfold cntN
  cases hg : getN r with
  | none => rfl
  | some p =>
    obtain ⟨m, k⟩ := p
    rw [hg] at h
    simp only at h ⊢
    by_cases hm : m ≤ (r.drop k).length
    · rw [if_pos hm] at h; cases h
    · rw [if_neg hm]
theorem oneI_some {r : List UInt8} {a : Int} {r' : List UInt8} (h : oneI r = some (a, r')) : ∃ m k, getN r = some (m, k) ∧ a = (m : Int) ∧ r' = r.drop k := by
  unfold oneI at h
  cases hg : getN r with
  | none => rw [hg] at h; cases h
  | some p =>
    obtain ⟨m, k⟩ := p
    rw [hg] at h
    injection h with h
    injection h with e1 e2
    exact ⟨m, k, rfl, e1.symm, e2.symm⟩
theorem oneI_none {r : List UInt8} (h : oneI r = none) : getN r = none := by
  unfold oneI at h
  cases hg : getN r with
  | none => rfl
  | some p => rw [hg] at h; cases h
theorem rd_call {w wo wx : World} {t : TypeId} {l : Value} {n : Nat} {xs : List Value} {r rx : List UInt8} {b bx : Bool} (ht : t ≠ 129) (hr : Rd wo w.heap.size r b) (hown : wo.ownsRow w.heap.size t 1 l n xs) (hb : Below w.heap.size w wo)
    (hrx : Rd wx w.heap.size rx bx) (hg : wo.grownBy wx (some w.heap.size)) : wx.ownsRow w.heap.size t 1 l n xs ∧ Below w.heap.size w wx ∧ w.heap.size < wx.heap.size :=
  ⟨hown.kept hg (Or.inr (by
    obtain ⟨_, _, _, hbk, _⟩ := hr
    exact own_blk_ne hown hbk ht)), hb.grown hg hb.size (fun g hg' => by injection hg' with h; omega), hrx.lt⟩
theorem rd_grow {w wx w4 : World} {t : TypeId} {l : Value} {n : Nat} {xs : List Value} {r : List UInt8} {b : Bool} {o : Obj} (ht : t ≠ 129) (hr : Rd wx w.heap.size r b) (hown : wx.ownsRow w.heap.size t 1 l n xs) (hb : Below w.heap.size w wx)
    (hg : (wx.alloc o).grownBy w4 l.ownBlock) : Rd w4 w.heap.size r b ∧ Below w.heap.size w w4 := by
  have h1 := hr.alloc o
  have hne : l.ownBlock ≠ some w.heap.size := by
    obtain ⟨_, _, _, hbk, _⟩ := hr
    exact own_blk_ne hown hbk ht
  have hge := fun g hg' => (hown.lt g hg').1
  have hsz := hb.size
  refine ⟨?_, (hb.alloc hb.size _).grown hg (by simp; omega) hge⟩
  cases hrow : l.ownBlock with
  | none => rw [hrow] at hg; exact h1.below ⟨hg.os, hg.tape, hg.output, hg.size, fun i hi => hg.block i hi (by simp)⟩
  | some g' =>
    rw [hrow] at hg hne
    have := hge g' hrow
    exact h1.grown hg (by
      have : g' ≠ w.heap.size := fun e => hne (by rw [e])
      omega)
/-- One thing of the reader, by its contract. -/
theorem rd_oneT_yes {g : Nat} {r : List UInt8} {a : ByteArray} {r' : List UInt8} (w : World) (h : Rd w g r false) (hg : oneT r = some (a, r')) :
    Calls Try.prog 80 #[.pointer (some ⟨g, 0, none⟩)] w fun e w' => e = .returned (.string a) ∧ Rd w' g r' false ∧ w.grownBy w' (some g) := by
  obtain ⟨m, k, h1, rfl, rfl⟩ := oneT_some hg
  rw [List.drop_drop]
  exact rd_text_yes w h h1
theorem rd_oneI_yes {g : Nat} {r : List UInt8} {a : Int} {r' : List UInt8} (w : World) (h : Rd w g r false) (hg : oneI r = some (a, r')) :
    Calls Try.prog 82 #[.pointer (some ⟨g, 0, none⟩)] w fun e w' => e = .returned (.int .i64 a) ∧ Rd w' g r' false ∧ w.grownBy w' (some g) := by
  obtain ⟨m, k, h1, rfl, rfl⟩ := oneI_some hg
  exact rd_number_yes w h h1
theorem rd_oneT_no {g : Nat} {r : List UInt8} (w : World) (h : Rd w g r false) (hg : oneT r = none) :
    Calls Try.prog 80 #[.pointer (some ⟨g, 0, none⟩)] w fun e w' => (∃ s, e = .returned (.string s)) ∧ (∃ bs', Rd w' g bs' true) ∧ w.grownBy w' (some g) := rd_text_no w h (.inr (oneT_none hg))
theorem rd_oneI_no {g : Nat} {r : List UInt8} (w : World) (h : Rd w g r false) (hg : oneI r = none) :
    Calls Try.prog 82 #[.pointer (some ⟨g, 0, none⟩)] w fun e w' => (∃ s, e = .returned (.int .i64 s)) ∧ (∃ bs', Rd w' g bs' true) ∧ w.grownBy w' (some g) :=
  (rd_number_no w h (.inr (oneI_none hg))).mono fun _ _ ⟨h1, h2, h3⟩ => ⟨⟨_, h1⟩, ⟨_, h2⟩, h3⟩

set_option maxRecDepth 100000 in
set_option maxHeartbeats 1000000 in
theorem wire_listT_yes {A : Option Addr} {n c : Nat} {bs : List UInt8} {ls : List ByteArray} (w : World) (hs : Sl w 1 A n (bytes8 bs)) (hnc : n ≤ c) (hc : c ≤ 9223372036854775807) (hg : getT bs = some ls) :
    Calls Try.prog 79 #[.slice A n c, .func (.func 80) #[] #[]] w fun e w' => ∃ v, e = .returned (.tuple #[v, .int .i64 0]) ∧ w'.ownsRow w.heap.size 9 1 v ls.length (strs ls) ∧ Below w.heap.size w w' := by
  obtain ⟨hb, m, k, hcnt, hrd⟩ := getL_cnt hg
  obtain ⟨i0, hi, hz0, hz1, hz2⟩ := info_parts Try.infoStr
  have hn : n ≤ 1048576 := by rw [hs.blen] at hb; exact hb
  have hd : decide ((1048576 : Int) < (n : Int)) = false := by rw [decide_eq_false_iff_not]; omega
  have HR : Hid (Rd (w.alloc (.cells #[.slice A n c, .bool false] 129)) w.heap.size bs false) := ⟨A, n, c, Blk.new w _ _, hs.alloc _, hnc, hc, fun h => by obtain ⟨b, off, e, hb, _⟩ := hs.2 h; exact ⟨b, off, e, hb⟩⟩
  have HC := hide hcnt
  have HD := hide hrd
  have HB0 : Hid (Below w.heap.size w (w.alloc (.cells #[.slice A n c, .bool false] 129))) := (Below.refl _ _).alloc (Nat.le_refl _) _
  have hmb : m ≤ 1048576 := by
    have h1 := (cntN_some hcnt).2
    rw [List.length_drop] at h1
    omega
  clear hg hcnt hrd hb hs
  go_enter Try.func79, Try.ntmps79
  go_wp2_with fail
  go_step3
  go_wp2_with (go_at_call 83; refine (rd_count_yes _ HR.out HC.out).mono ?_; rintro e w2 ⟨rfl, hr2, hg2⟩)
  have hb2 : Below w.heap.size w w2 := HB0.out.grown hg2 (by simp) (fun g hg' => by injection hg' with h; omega)
  go_loopw [4, 7] (fun l t wr => ∃ (j : Nat) (ys zs : List ByteArray) (rest : List UInt8), t = .int .i64 j ∧ Hid (rdL oneT j rest = some zs) ∧ Hid (ys ++ zs = ls) ∧ ys.length + j ≤ 1048576 ∧ Rd wr w.heap.size rest false ∧ wr.ownsRow w.heap.size 9 1 l ys.length (strs ys) ∧ Below w.heap.size w wr) (fun _ t _ => (intOf t).toNat)
  case atStart => exact ⟨m, [], ls, bs.drop k, rfl, HD, by simp [Hid], by simpa using hmb, hr2, World.ownsRow_nil _ _ _ _, hb2⟩
  case round =>
    obtain ⟨j, ys, zs, rest, rfl, HZ, HY, hyj, hr, hown, hb⟩ := hrel
    clear hr2 hg2 hb2
    obtain ⟨wo, rfl⟩ : ∃ wo : World, wo = wr := ⟨_, rfl⟩
    have hsz := hb.size
    have hlt0 : w.heap.size < wo.heap.size := hr.lt
    cases j with
    | zero =>
      obtain ⟨hr0, hz0'⟩ := rdL_zero HZ.out
      obtain ⟨A1, n1, c1, hb1, hs1, _⟩ := hr
      have h0 : wo.cell? ⟨w.heap.size, 0, none⟩ = some (.slice A1 n1 c1) := hb1.at_ rfl
      have h1 : wo.cell? ⟨w.heap.size, 1, none⟩ = some (.bool false) := hb1.at_ rfl
      have hn1 : n1 = 0 := by
        have := hs1.blen
        rw [hr0] at this
        simpa using this.symm
      subst hn1
      have HF : Hid (ys = ls) := by have := HY.out; rw [hz0', List.append_nil] at this; exact this
      clear hb1 hs1 hr0 hz0'
      go_wp2_with fail
      try rw [Exit.noGoto_ret]
      go_ret2
      refine ⟨_, rfl, ?_, hb⟩
      rw [← HF.out]
      exact hown
    | succ j =>
      obtain ⟨a, r', zs', h1, h2, h3⟩ := rdL_more HZ.out
      have H1 := hide h1
      have H2 := hide h2
      have HY2 : Hid ((ys ++ [a]) ++ zs' = ls) := by have := HY.out; rw [h3] at this; simpa [Hid] using this
      clear h1 h2 h3
      obtain ⟨A2, c2, rfl⟩ := own_slice hown
      go_wp2_with fail
      refine (rd_oneT_yes _ hr H1.out).mono ?_
      rintro e w3 ⟨rfl, hr3, hg3⟩
      obtain ⟨hown3, hb3, hlt3⟩ := rd_call (by decide) hr hown hb hr3 hg3
      clear hown hb hg3 hr
      go_wp2_with (at_builtin; refine wpList_append_own _ rfl _ _ 45 rfl w.heap.size 9 i0 (.string ByteArray.empty) 1 16 Try.underlying45 hi hz0 hz1 hz2 rfl (by decide) _ _ _ rfl (hown3.alloc _) ⟨w3.heap.size, 0, none⟩ 1 1 [.string a] rfl rfl ?c1 ?c2 ?c3 ?c4 ?c5 ?_)
      case c1 => exact news_one _ _ _
      case c2 => exact one_str _
      case c3 => unfold maxLen; omega
      case c4 => omega
      case c5 => simp; omega
      intro v4 w4 hown4 hg4 _
      obtain ⟨A4, c4, rfl⟩ := own_slice hown4
      obtain ⟨hr4, hb4⟩ := rd_grow (by decide) hr3 hown3 hb3 hg4
      have hown5 : w4.ownsRow w.heap.size 9 1 (.slice A4 (ys.length + 1) c4) (ys ++ [a]).length (strs (ys ++ [a])) := by
        have e : strs (ys ++ [a]) = strs ys ++ [.string a] := by simp [strs]
        rw [e, List.length_append]; exact hown4
      have hrr := hide hr4
      obtain ⟨A5, n5, c5, hb5, _⟩ := hr4
      have h1' : w4.cell? ⟨w.heap.size, 1, none⟩ = some (.bool false) := hb5.at_ rfl
      clear hown4 hg4 hown3 hb3 hr3 hb5
      go_wp2_with fail
      go_roundw
      case rel => exact ⟨j, ys ++ [a], zs', r', by go_num, H2, HY2, by simp; omega, hrr.out, hown5, hb4⟩
      case measure => simp [intOf]

set_option maxRecDepth 100000 in
set_option maxHeartbeats 2000000 in
theorem wire_listT_no {A : Option Addr} {n c : Nat} {bs : List UInt8} (w : World) (hs : Sl w 1 A n (bytes8 bs)) (hnc : n ≤ c) (hc : c ≤ 9223372036854775807) (hg : getT bs = none) :
    Calls Try.prog 79 #[.slice A n c, .func (.func 80) #[] #[]] w fun e w' => e = .returned (.tuple #[.slice none 0 0, .int .i64 1]) ∧ Below w.heap.size w w' := by
  obtain ⟨i0, hi, hz0, hz1, hz2⟩ := info_parts Try.infoStr
  obtain ⟨bad, hbad⟩ : ∃ bad, decide ((1048576 : Int) < (n : Int)) = bad := ⟨_, rfl⟩
  have HR : Hid (Rd (w.alloc (.cells #[.slice A n c, .bool bad] 129)) w.heap.size bs bad) := ⟨A, n, c, Blk.new w _ _, hs.alloc _, hnc, hc, fun h => by obtain ⟨b, off, e, hb, _⟩ := hs.2 h; exact ⟨b, off, e, hb⟩⟩
  have HB0 : Hid (Below w.heap.size w (w.alloc (.cells #[.slice A n c, .bool bad] 129))) := (Below.refl _ _).alloc (Nat.le_refl _) _
  have two : (bad = true ∨ cntN bs = none) ∨ (bad = false ∧ ∃ m k, cntN bs = some (m, k) ∧ m ≤ 1048576 ∧ rdL oneT m (bs.drop k) = none) := by
    cases hb : bad with
    | true => exact .inl (.inl rfl)
    | false =>
      rw [hb, decide_eq_false_iff_not] at hbad
      cases hcn : cntN bs with
      | none => exact .inl (.inr rfl)
      | some p =>
        obtain ⟨m, k⟩ := p
        have h1 := (cntN_some hcn).2
        rw [List.length_drop, hs.blen] at h1
        exact .inr ⟨rfl, m, k, rfl, by omega, getL_cnt_no hg (by rw [hs.blen]; omega) hcn⟩
  clear hg hs
  go_enter Try.func79, Try.ntmps79
  go_wp2_with fail
  refine scope_loop 0 (fun a w' => ∃ (u0 u1 u2 u3 u4 u5 u6 u7 u8 u9 u10 u11 u12 u13 u14 u15 u16 u17 u18 u19 u20 u21 u22 u23 u24 u25 u26 u27 u28 u29 u30 u31 u32 u33 u34 u35 u36 u37 u38 u39 u40 u41 u42 u43 : Value), a = { tmps := #[u0, u1, u2, u3, u4, u5, u6, u7, u8, u9, u10, u11, u12, u13, u14, u15, u16, u17, u18, u19, u20, u21, u22, u23, u24, u25, u26, u27, u28, u29, u30, u31, u32, u33, u34, u35, u36, u37, u38, u39, u40, u41, u42, u43], defers := [] } ∧ Below w.heap.size w w') (fun _ _ => 0) rfl ?_ ?_
  · rintro a w' ⟨u0, u1, u2, u3, u4, u5, u6, u7, u8, u9, u10, u11, u12, u13, u14, u15, u16, u17, u18, u19, u20, u21, u22, u23, u24, u25, u26, u27, u28, u29, u30, u31, u32, u33, u34, u35, u36, u37, u38, u39, u40, u41, u42, u43, rfl, hb⟩
    clear two HB0 HR hbad
    go_wp2_with fail
    try rw [Exit.jump_ret]
    go_ret2
    exact ⟨rfl, hb⟩
  · intro H
    rcases two with two | ⟨rfl, m, k, hcn, hm, hrd⟩
    · go_wp2_with fail
      refine (rd_count_no _ HR.out two).mono ?_
      rintro e w2 ⟨rfl, ⟨bs', hr2⟩, hg2⟩
      have hb2 : Below w.heap.size w w2 := HB0.out.grown hg2 (by simp) (fun g hg' => by injection hg' with h; omega)
      obtain ⟨A1, n1, c1, hb1, _⟩ := hr2
      have h1' : w2.cell? ⟨w.heap.size, 1, none⟩ = some (.bool true) := hb1.at_ rfl
      clear hg2 hb1 two HR HB0 hbad
      go_wp2_with fail
      go_loopw [4, 7] (fun l t wr => t = .int .i64 0 ∧ w2 = wr) (fun _ t _ => (intOf t).toNat)
      case atStart => exact ⟨rfl, rfl⟩
      case round =>
        obtain ⟨rfl, rfl⟩ := hrel
        go_wp2_with fail
        go_step3
        rename_i hk
        exact hk _ _ (H _ _ ⟨_, _, _, _, _, _, _, _, _, _, _, _, _, _, _, _, _, _, _, _, _, _, _, _, _, _, _, _, _, _, _, _, _, _, _, _, _, _, _, _, _, _, _, _, rfl, hb2⟩)
    · have HC := hide hcn
      have HD := hide hrd
      clear hcn hrd
      go_wp2_with fail
      refine (rd_count_yes _ HR.out HC.out).mono ?_
      rintro e w2 ⟨rfl, hr2, hg2⟩
      have hb2 : Below w.heap.size w w2 := HB0.out.grown hg2 (by simp) (fun g hg' => by injection hg' with h; omega)
      clear hg2 HR HB0 hbad
      go_wp2_with fail
      go_loopw [4, 7] (fun l t wr => ∃ (j : Nat) (ys : List ByteArray) (rest : List UInt8), t = .int .i64 j ∧ Hid (rdL oneT j rest = none) ∧ ys.length + j ≤ 1048576 ∧ Rd wr w.heap.size rest false ∧ wr.ownsRow w.heap.size 9 1 l ys.length (strs ys) ∧ Below w.heap.size w wr) (fun _ t _ => (intOf t).toNat)
      case atStart => exact ⟨m, [], bs.drop k, rfl, HD, by simpa using hm, hr2, World.ownsRow_nil _ _ _ _, hb2⟩
      case round =>
        obtain ⟨j, ys, rest, rfl, HZ, hyj, hr, hown, hb⟩ := hrel
        clear hr2 hb2
        obtain ⟨wo, rfl⟩ : ∃ wo : World, wo = wr := ⟨_, rfl⟩
        have hsz := hb.size
        have hlt0 : w.heap.size < wo.heap.size := hr.lt
        cases j with
        | zero =>
          have hpos := rdL_zero_no HZ.out
          obtain ⟨A1, n1, c1, hb1, hs1, _⟩ := hr
          have h0 : wo.cell? ⟨w.heap.size, 0, none⟩ = some (.slice A1 n1 c1) := hb1.at_ rfl
          have h1 : wo.cell? ⟨w.heap.size, 1, none⟩ = some (.bool false) := hb1.at_ rfl
          have hn1 : ((n1 : Int) == 0) = false := by
            have := hs1.blen
            simp; omega
          clear hb1 hs1 hpos
          go_wp2_with fail
          go_step3
          rename_i hk
          exact hk _ _ (H _ _ ⟨_, _, _, _, _, _, _, _, _, _, _, _, _, _, _, _, _, _, _, _, _, _, _, _, _, _, _, _, _, _, _, _, _, _, _, _, _, _, _, _, _, _, _, _, rfl, hb⟩)
        | succ j =>
          obtain ⟨A2, c2, rfl⟩ := own_slice hown
          rcases rdL_less HZ.out with h1 | ⟨a, r', h1, h2⟩
          · have H1 := hide h1
            clear h1
            go_wp2_with fail
            refine (rd_oneT_no _ hr H1.out).mono ?_
            rintro e w3 ⟨⟨a, rfl⟩, ⟨r', hr3⟩, hg3⟩
            obtain ⟨hown3, hb3, hlt3⟩ := rd_call (by decide) hr hown hb hr3 hg3
            clear hown hb hg3 hr
            go_wp2_with (at_builtin; refine wpList_append_own _ rfl _ _ 45 rfl w.heap.size 9 i0 (.string ByteArray.empty) 1 16 Try.underlying45 hi hz0 hz1 hz2 rfl (by decide) _ _ _ rfl (hown3.alloc _) ⟨w3.heap.size, 0, none⟩ 1 1 [.string a] rfl rfl (news_one _ _ _) (one_str _) (by unfold maxLen; omega) (by omega) (by simp; omega) ?_)
            intro v4 w4 hown4 hg4 _
            obtain ⟨hr4, hb4⟩ := rd_grow (by decide) hr3 hown3 hb3 hg4
            obtain ⟨A5, n5, c5, hb5, _⟩ := hr4
            have h1' : w4.cell? ⟨w.heap.size, 1, none⟩ = some (.bool true) := hb5.at_ rfl
            clear hown4 hg4 hown3 hb3 hr3 hb5
            go_wp2_with fail
            go_step3
            repeat (first | refine Exit.then_goto ?_ | refine Exit.inBlock_goto ?_)
            exact Exit.jump_goto ⟨_, _, _, _, _, _, _, _, _, _, _, _, _, _, _, _, _, _, _, _, _, _, _, _, _, _, _, _, _, _, _, _, _, _, _, _, _, _, _, _, _, _, _, _, rfl, hb4⟩
          · have H1 := hide h1
            have H2 := hide h2
            clear h1 h2
            go_wp2_with fail
            refine (rd_oneT_yes _ hr H1.out).mono ?_
            rintro e w3 ⟨rfl, hr3, hg3⟩
            obtain ⟨hown3, hb3, hlt3⟩ := rd_call (by decide) hr hown hb hr3 hg3
            clear hown hb hg3 hr
            go_wp2_with (at_builtin; refine wpList_append_own _ rfl _ _ 45 rfl w.heap.size 9 i0 (.string ByteArray.empty) 1 16 Try.underlying45 hi hz0 hz1 hz2 rfl (by decide) _ _ _ rfl (hown3.alloc _) ⟨w3.heap.size, 0, none⟩ 1 1 [.string a] rfl rfl (news_one _ _ _) (one_str _) (by unfold maxLen; omega) (by omega) (by simp; omega) ?_)
            intro v4 w4 hown4 hg4 _
            obtain ⟨hr4, hb4⟩ := rd_grow (by decide) hr3 hown3 hb3 hg4
            have hown5 : w4.ownsRow w.heap.size 9 1 v4 (ys ++ [a]).length (strs (ys ++ [a])) := by
              have e : strs (ys ++ [a]) = strs ys ++ [.string a] := by simp [strs]
              rw [e, List.length_append]; exact hown4
            have hrr := hide hr4
            obtain ⟨A5, n5, c5, hb5, _⟩ := hr4
            have h1' : w4.cell? ⟨w.heap.size, 1, none⟩ = some (.bool false) := hb5.at_ rfl
            clear hown4 hg4 hown3 hb3 hr3 hb5
            go_wp2_with fail
            go_roundw
            case rel => exact ⟨j, ys ++ [a], r', by go_num, H2, by simp; omega, hrr.out, hown5, hb4⟩
            case measure => simp [intOf]

set_option maxHeartbeats 400000 in
theorem wire_Get_yes {A : Option Addr} {n c : Nat} {bs : List UInt8} {ls : List ByteArray} (w : World) (hs : Sl w 1 A n (bytes8 bs)) (hnc : n ≤ c) (hc : c ≤ 9223372036854775807) (hg : getT bs = some ls) :
    Calls Try.prog 60 #[.slice A n c] w fun e w' => ∃ v, e = .returned (.tuple #[v, .int .i64 0]) ∧ w'.ownsRow w.heap.size 9 1 v ls.length (strs ls) ∧ Below w.heap.size w w' := by
  have HG := hide hg
  clear hg
  go_enter Try.func60, Try.ntmps60
  go_wp2_with fail
  refine (wire_listT_yes _ hs hnc hc HG.out).mono ?_
  rintro e w1 ⟨v, rfl, h1, h2⟩
  go_wp2_with fail
  go_ret2
  exact ⟨_, rfl, h1, h2⟩
set_option maxHeartbeats 400000 in
theorem wire_Get_no {A : Option Addr} {n c : Nat} {bs : List UInt8} (w : World) (hs : Sl w 1 A n (bytes8 bs)) (hnc : n ≤ c) (hc : c ≤ 9223372036854775807) (hg : getT bs = none) :
    Calls Try.prog 60 #[.slice A n c] w fun e w' => e = .returned (.tuple #[.slice none 0 0, .int .i64 1]) ∧ Below w.heap.size w w' := by
  have HG := hide hg
  clear hg
  go_enter Try.func60, Try.ntmps60
  go_wp2_with fail
  refine (wire_listT_no _ hs hnc hc HG.out).mono ?_
  rintro e w1 ⟨rfl, h2⟩
  go_wp2_with fail
  go_ret2
  exact ⟨rfl, h2⟩
end Go.Proofs.Ytflamhndmggiaaa
