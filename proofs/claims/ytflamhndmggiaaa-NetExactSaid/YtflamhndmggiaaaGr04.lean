/-
  Texts joined: words and contracts that later texts use; lemmas alone, no conditions of a statement.
-/
import Derived.Test.YtflamhndmggiaaaGr03
set_option linter.unusedVariables false
set_option linter.unusedSimpArgs false
/-
  Contracts of reading texts and numbers: wire's own: what bytes are read as, or none.
-/
namespace Go.Proofs.Ytflamhndmggiaaa
open Go.RowKit

theorem Try.infoInt : (Try.prog.info? 3).map (fun i => (i.zero, i.size, i.bytes)) = some (some (.int .i64 0), 1, 8) := by kernel_rfl
theorem one_int64 (n : Int) : ∀ u ∈ [Value.int .i64 n], u.oneCell' = true := by intro u hu; simp at hu; subst hu; rfl
theorem getL_cnt {α : Type} {one : List UInt8 → Option (α × List UInt8)} {bs : List UInt8} {l : List α} (h : getL one bs = some l) : bs.length ≤ 1048576 ∧ ∃ m k, cntN bs = some (m, k) ∧ rdL one m (bs.drop k) = some l := by
  unfold getL at h
  by_cases hb : 1048576 < bs.length
  · rw [if_pos hb] at h; cases h
  · rw [if_neg hb] at h
    cases hg : getN bs with
    | none => rw [hg] at h; cases h
    | some p =>
      obtain ⟨m, k⟩ := p
      rw [hg] at h
      simp only at h
      by_cases hm : m ≤ (bs.drop k).length
      · rw [if_pos hm] at h
        refine ⟨by omega, m, k, ?_, h⟩
        unfold cntN
        rw [hg]
        simp only
        rw [if_pos hm]
      · rw [if_neg hm] at h; cases h
theorem getL_cnt_no {α : Type} {one : List UInt8 → Option (α × List UInt8)} {bs : List UInt8} {m k : Nat} (h : getL one bs = none) (hb : bs.length ≤ 1048576) (hc : cntN bs = some (m, k)) : rdL one m (bs.drop k) = none := by
  obtain ⟨h1, h2⟩ := cntN_some hc
  unfold getL at h
  rw [if_neg (by omega), h1] at h
  simp only at h
  rw [if_pos h2] at h
  exact h
theorem rdL_more {α : Type} {one : List UInt8 → Option (α × List UInt8)} {n : Nat} {r : List UInt8} {l : List α} (h : rdL one (n + 1) r = some l) : ∃ a r' l', one r = some (a, r') ∧ rdL one n r' = some l' ∧ l = a :: l' := by
  rw [rdL] at h
  cases h1 : one r with
  | none => rw [h1] at h; cases h
  | some p =>
    obtain ⟨a, r'⟩ := p
    rw [h1] at h
    simp only at h
    cases h2 : rdL one n r' with
    | none => rw [h2] at h; cases h
    | some l' =>
      rw [h2] at h
      injection h with h
      exact ⟨a, r', l', rfl, h2, h.symm⟩
theorem rdL_less {α : Type} {one : List UInt8 → Option (α × List UInt8)} {n : Nat} {r : List UInt8} (h : rdL one (n + 1) r = none) : one r = none ∨ ∃ a r', one r = some (a, r') ∧ rdL one n r' = none := by
  rw [rdL] at h
  cases h1 : one r with
  | none => exact .inl rfl
  | some p =>
    obtain ⟨a, r'⟩ := p
    rw [h1] at h
    simp only at h
    cases h2 : rdL one n r' with
    | none => exact .inr ⟨a, r', rfl, h2⟩
    | some l' => rw [h2] at h; cases h
theorem rdL_zero {α : Type} {one : List UInt8 → Option (α × List UInt8)} {r : List UInt8} {l : List α} (h : rdL one 0 r = some l) : r = [] ∧ l = [] := by
  rw [rdL] at h
  by_cases hr : r = []
  · rw [if_pos hr] at h
    injection h with h
    exact ⟨hr, h.symm⟩
  · rw [if_neg hr] at h; cases h
theorem rdL_zero_no {α : Type} {one : List UInt8 → Option (α × List UInt8)} {r : List UInt8} (h : rdL one 0 r = none) : 0 < r.length := by
  rw [rdL] at h
  by_cases hr : r = []
  · rw [if_pos hr] at h; cases h
  · exact List.length_pos_iff.2 hr
theorem oneT_some {r : List UInt8} {a : ByteArray} {r' : List UInt8} (h : oneT r = some (a, r')) : ∃ m k, cntN r = some (m, k) ∧ a = tx ((r.drop k).take m) ∧ r' = (r.drop k).drop m := by
  unfold oneT at h
  unfold cntN
  cases hg : getN r with
  | none => rw [hg] at h; cases h
  | some p =>
    obtain ⟨m, k⟩ := p
    rw [hg] at h
    simp only at h ⊢
    by_cases hm : m ≤ (r.drop k).length
    · rw [if_pos hm] at h ⊢
      injection h with h
      injection h with e1 e2
      exact ⟨m, k, rfl, e1.symm, e2.symm⟩
    · rw [if_neg hm] at h; cases h
theorem oneT_none {r : List UInt8} (h : oneT r = none) : cntN r = none := by
  unfold oneT at h
  unfold cntN
  cases hg : getN r with
  | none => rfl
  | some p =>
    obtain ⟨m, k⟩ := p
    rw [hg] at h
    simp only at h ⊢
    by_cases hm : m ≤ (r.drop k).length
    · rw [if_pos hm] at h; cases h
    · rw [if_neg hm]
theorem oneI_some {r : List UInt8} {a : Int} {r' : List UInt8} (h : oneI r = some (a, r')) : ∃ m k, getN r = some (m, k) ∧ a = (m : Int) ∧ r' = r.drop k := by
  unfold oneI at h
  cases hg : getN r with
  | none => rw [hg] at h; cases h
  | some p =>
    obtain ⟨m, k⟩ := p
    rw [hg] at h
    injection h with h
    injection h with e1 e2
    exact ⟨m, k, rfl, e1.symm, e2.symm⟩
theorem oneI_none {r : List UInt8} (h : oneI r = none) : getN r = none := by
  unfold oneI at h
  cases hg : getN r with
  | none => rfl
  | some p => rw [hg] at h; cases h
theorem rd_call {w wo wx : World} {t : TypeId} {l : Value} {n : Nat} {xs : List Value} {r rx : List UInt8} {b bx : Bool} (ht : t ≠ 129) (hr : Rd wo w.heap.size r b) (hown : wo.ownsRow w.heap.size t 1 l n xs) (hb : Below w.heap.size w wo)
    (hrx : Rd wx w.heap.size rx bx) (hg : wo.grownBy wx (some w.heap.size)) : wx.ownsRow w.heap.size t 1 l n xs ∧ Below w.heap.size w wx ∧ w.heap.size < wx.heap.size :=
  ⟨hown.kept hg (Or.inr (by
    obtain ⟨_, _, _, hbk, _⟩ := hr
    exact own_blk_ne hown hbk ht)), hb.grown hg hb.size (fun g hg' => by injection hg' with h; omega), hrx.lt⟩
theorem rd_grow {w wx w4 : World} {t : TypeId} {l : Value} {n : Nat} {xs : List Value} {r : List UInt8} {b : Bool} {o : Obj} (ht : t ≠ 129) (hr : Rd wx w.heap.size r b) (hown : wx.ownsRow w.heap.size t 1 l n xs) (hb : Below w.heap.size w wx)
    (hg : (wx.alloc o).grownBy w4 l.ownBlock) : Rd w4 w.heap.size r b ∧ Below w.heap.size w w4 := by
  have h1 := hr.alloc o
  have hne : l.ownBlock ≠ some w.heap.size := by
    obtain ⟨_, _, _, hbk, _⟩ := hr
    exact own_blk_ne hown hbk ht
  have hge := fun g hg' => (hown.lt g hg').1
  have hsz := hb.size
  refine ⟨?_, (hb.alloc hb.size _).grown hg (by simp; omega) hge⟩
  cases hrow : l.ownBlock with
  | none => rw [hrow] at hg; exact h1.below ⟨hg.os, hg.tape, hg.output, hg.size, fun i hi => hg.block i hi (by simp)⟩
  | some g' =>
    rw [hrow] at hg hne
    have := hge g' hrow
    exact h1.grown hg (by
      have : g' ≠ w.heap.size := fun e => hne (by rw [e])
      omega)
/-- One thing of the reader, by its contract. -/
theorem rd_oneT_yes {g : Nat} {r : List UInt8} {a : ByteArray} {r' : List UInt8} (w : World) (h : Rd w g r false) (hg : oneT r = some (a, r')) :
    Calls Try.prog 80 #[.pointer (some ⟨g, 0, none⟩)] w fun e w' => e = .returned (.string a) ∧ Rd w' g r' false ∧ w.grownBy w' (some g) := by
  obtain ⟨m, k, h1, rfl, rfl⟩ := oneT_some hg
  rw [List.drop_drop]
  exact rd_text_yes w h h1
theorem rd_oneI_yes {g : Nat} {r : List UInt8} {a : Int} {r' : List UInt8} (w : World) (h : Rd w g r false) (hg : oneI r = some (a, r')) :
    Calls Try.prog 82 #[.pointer (some ⟨g, 0, none⟩)] w fun e w' => e = .returned (.int .i64 a) ∧ Rd w' g r' false ∧ w.grownBy w' (some g) := by
  obtain ⟨m, k, h1, rfl, rfl⟩ := oneI_some hg
  exact rd_number_yes w h h1
theorem rd_oneT_no {g : Nat} {r : List UInt8} (w : World) (h : Rd w g r false) (hg : oneT r = none) :
    Calls Try.prog 80 #[.pointer (some ⟨g, 0, none⟩)] w fun e w' => (∃ s, e = .returned (.string s)) ∧ (∃ bs', Rd w' g bs' true) ∧ w.grownBy w' (some g) := rd_text_no w h (.inr (oneT_none hg))
theorem rd_oneI_no {g : Nat} {r : List UInt8} (w : World) (h : Rd w g r false) (hg : oneI r = none) :
    Calls Try.prog 82 #[.pointer (some ⟨g, 0, none⟩)] w fun e w' => (∃ s, e = .returned (.int .i64 s)) ∧ (∃ bs', Rd w' g bs' true) ∧ w.grownBy w' (some g) :=
  (rd_number_no w h (.inr (oneI_none hg))).mono fun _ _ ⟨h1, h2, h3⟩ => ⟨⟨_, h1⟩, ⟨_, h2⟩, h3⟩

set_option maxRecDepth 100000 in
set_option maxHeartbeats 1000000 in
theorem wire_listT_yes {A : Option Addr} {n c : Nat} {bs : List UInt8} {ls : List ByteArray} (w : World) (hs : Sl w 1 A n (bytes8 bs)) (hnc : n ≤ c) (hc : c ≤ 9223372036854775807) (hg : getT bs = some ls) :
    Calls Try.prog 79 #[.slice A n c, .func (.func 80) #[] #[]] w fun e w' => ∃ v, e = .returned (.tuple #[v, .int .i64 0]) ∧ w'.ownsRow w.heap.size 9 1 v ls.length (strs ls) ∧ Below w.heap.size w w' := by
  obtain ⟨hb, m, k, hcnt, hrd⟩ := getL_cnt hg
  obtain ⟨i0, hi, hz0, hz1, hz2⟩ := info_parts Try.infoStr
  have hn : n ≤ 1048576 := by rw [hs.blen] at hb; exact hb
  have hd : decide ((1048576 : Int) < (n : Int)) = false := by rw [decide_eq_false_iff_not]; omega
  have HR : Hid (Rd (w.alloc (.cells #[.slice A n c, .bool false] 129)) w.heap.size bs false) := ⟨A, n, c, Blk.new w _ _, hs.alloc _, hnc, hc, fun h => by obtain ⟨b, off, e, hb, _⟩ := hs.2 h; exact ⟨b, off, e, hb⟩⟩
  have HC := hide hcnt
  have HD := hide hrd
  have HB0 : Hid (Below w.heap.size w (w.alloc (.cells #[.slice A n c, .bool false] 129))) := (Below.refl _ _).alloc (Nat.le_refl _) _
  have hmb : m ≤ 1048576 := by
    have h1 := (cntN_some hcnt).2
    rw [List.length_drop] at h1
    omega
  clear hg hcnt hrd hb hs
  go_enter Try.func79, Try.ntmps79
  go_wp2_with fail
  go_step3
  go_wp2_with (go_at_call 83; refine (rd_count_yes _ HR.out HC.out).mono ?_; rintro e w2 ⟨rfl, hr2, hg2⟩)
  have hb2 : Below w.heap.size w w2 := HB0.out.grown hg2 (by simp) (fun g hg' => by injection hg' with h; omega)
  go_loopw [4, 7] (fun l t wr => ∃ (j : Nat) (ys zs : List ByteArray) (rest : List UInt8), t = .int .i64 j ∧ Hid (rdL oneT j rest = some zs) ∧ Hid (ys ++ zs = ls) ∧ ys.length + j ≤ 1048576 ∧ Rd wr w.heap.size rest false ∧ wr.ownsRow w.heap.size 9 1 l ys.length (strs ys) ∧ Below w.heap.size w wr) (fun _ t _ => (intOf t).toNat)
  case atStart => exact ⟨m, [], ls, bs.drop k, rfl, HD, by simp [Hid], by simpa using hmb, hr2, World.ownsRow_nil _ _ _ _, hb2⟩
  case round =>
    obtain ⟨j, ys, zs, rest, rfl, HZ, HY, hyj, hr, hown, hb⟩ := hrel
    clear hr2 hg2 hb2
    obtain ⟨wo, rfl⟩ : ∃ wo : World, wo = wr := ⟨_, rfl⟩
    have hsz := hb.size
    have hlt0 : w.heap.size < wo.heap.size := hr.lt
    cases j with
    | zero =>
      obtain ⟨hr0, hz0'⟩ := rdL_zero HZ.out
      obtain ⟨A1, n1, c1, hb1, hs1, _⟩ := hr
      have h0 : wo.cell? ⟨w.heap.size, 0, none⟩ = some (.slice A1 n1 c1) := hb1.at_ rfl
      have h1 : wo.cell? ⟨w.heap.size, 1, none⟩ = some (.bool false) := hb1.at_ rfl
      have hn1 : n1 = 0 := by
        have := hs1.blen
        rw [hr0] at this
        simpa using this.symm
      subst hn1
      have HF : Hid (ys = ls) := by have := HY.out; rw [hz0', List.append_nil] at this; exact this
      clear hb1 hs1 hr0 hz0'
      go_wp2_with fail
      try rw [Exit.noGoto_ret]
      go_ret2
      refine ⟨_, rfl, ?_, hb⟩
      rw [← HF.out]
      exact hown
    | succ j =>
      obtain ⟨a, r', zs', h1, h2, h3⟩ := rdL_more HZ.out
      have H1 := hide h1
      have H2 := hide h2
      have HY2 : Hid ((ys ++ [a]) ++ zs' = ls) := by have := HY.out; rw [h3] at this; simpa [Hid] using this
      clear h1 h2 h3
      obtain ⟨A2, c2, rfl⟩ := own_slice hown
      go_wp2_with fail
      refine (rd_oneT_yes _ hr H1.out).mono ?_
      rintro e w3 ⟨rfl, hr3, hg3⟩
      obtain ⟨hown3, hb3, hlt3⟩ := rd_call (by decide) hr hown hb hr3 hg3
      clear hown hb hg3 hr
      go_wp2_with (at_builtin; refine wpList_append_own _ rfl _ _ 45 rfl w.heap.size 9 i0 (.string ByteArray.empty) 1 16 Try.underlying45 hi hz0 hz1 hz2 rfl (by decide) _ _ _ rfl (hown3.alloc _) ⟨w3.heap.size, 0, none⟩ 1 1 [.string a] rfl rfl ?c1 ?c2 ?c3 ?c4 ?c5 ?_)
      case c1 => exact news_one _ _ _
      case c2 => exact one_str _
      case c3 => unfold maxLen; omega
      case c4 => omega
      case c5 => simp; omega
      intro v4 w4 hown4 hg4 _
      obtain ⟨A4, c4, rfl⟩ := own_slice hown4
      obtain ⟨hr4, hb4⟩ := rd_grow (by decide) hr3 hown3 hb3 hg4
      have hown5 : w4.ownsRow w.heap.size 9 1 (.slice A4 (ys.length + 1) c4) (ys ++ [a]).length (strs (ys ++ [a])) := by
        have e : strs (ys ++ [a]) = strs ys ++ [.string a] := by simp [strs]
        rw [e, List.length_append]; exact hown4
      have hrr := hide hr4
      obtain ⟨A5, n5, c5, hb5, _⟩ := hr4
      have h1' : w4.cell? ⟨w.heap.size, 1, none⟩ = some (.bool false) := hb5.at_ rfl
      clear hown4 hg4 hown3 hb3 hr3 hb5
      go_wp2_with fail
      go_roundw
      case rel => exact ⟨j, ys ++ [a], zs', r', by go_num, H2, HY2, by simp; omega, hrr.out, hown5, hb4⟩
      case measure => simp [intOf]

set_option maxRecDepth 100000 in
set_option maxHeartbeats 2000000 in
theorem wire_listT_no {A : Option Addr} {n c : Nat} {bs : List UInt8} (w : World) (hs : Sl w 1 A n (bytes8 bs)) (hnc : n ≤ c) (hc : c ≤ 9223372036854775807) (hg : getT bs = none) :
    Calls Try.prog 79 #[.slice A n c, .func (.func 80) #[] #[]] w fun e w' => e = .returned (.tuple #[.slice none 0 0, .int .i64 1]) ∧ Below w.heap.size w w' := by
  obtain ⟨i0, hi, hz0, hz1, hz2⟩ := info_parts Try.infoStr
  obtain ⟨bad, hbad⟩ : ∃ bad, decide ((1048576 : Int) < (n : Int)) = bad := ⟨_, rfl⟩
  have HR : Hid (Rd (w.alloc (.cells #[.slice A n c, .bool bad] 129)) w.heap.size bs bad) := ⟨A, n, c, Blk.new w _ _, hs.alloc _, hnc, hc, fun h => by obtain ⟨b, off, e, hb, _⟩ := hs.2 h; exact ⟨b, off, e, hb⟩⟩
  have HB0 : Hid (Below w.heap.size w (w.alloc (.cells #[.slice A n c, .bool bad] 129))) := (Below.refl _ _).alloc (Nat.le_refl _) _
  have two : (bad = true ∨ cntN bs = none) ∨ (bad = false ∧ ∃ m k, cntN bs = some (m, k) ∧ m ≤ 1048576 ∧ rdL oneT m (bs.drop k) = none) := by
    cases hb : bad with
    | true => exact .inl (.inl rfl)
    | false =>
      rw [hb, decide_eq_false_iff_not] at hbad
      cases hcn : cntN bs with
      | none => exact .inl (.inr rfl)
      | some p =>
        obtain ⟨m, k⟩ := p
        have h1 := (cntN_some hcn).2
        rw [List.length_drop, hs.blen] at h1
        exact .inr ⟨rfl, m, k, rfl, by omega, getL_cnt_no hg (by rw [hs.blen]; omega) hcn⟩
  clear hg hs
  go_enter Try.func79, Try.ntmps79
  go_wp2_with fail
  refine scope_loop 0 (fun a w' => ∃ (u0 u1 u2 u3 u4 u5 u6 u7 u8 u9 u10 u11 u12 u13 u14 u15 u16 u17 u18 u19 u20 u21 u22 u23 u24 u25 u26 u27 u28 u29 u30 u31 u32 u33 u34 u35 u36 u37 u38 u39 u40 u41 u42 u43 : Value), a = { tmps := #[u0, u1, u2, u3, u4, u5, u6, u7, u8, u9, u10, u11, u12, u13, u14, u15, u16, u17, u18, u19, u20, u21, u22, u23, u24, u25, u26, u27, u28, u29, u30, u31, u32, u33, u34, u35, u36, u37, u38, u39, u40, u41, u42, u43], defers := [] } ∧ Below w.heap.size w w') (fun _ _ => 0) rfl ?_ ?_
  · rintro a w' ⟨u0, u1, u2, u3, u4, u5, u6, u7, u8, u9, u10, u11, u12, u13, u14, u15, u16, u17, u18, u19, u20, u21, u22, u23, u24, u25, u26, u27, u28, u29, u30, u31, u32, u33, u34, u35, u36, u37, u38, u39, u40, u41, u42, u43, rfl, hb⟩
    clear two HB0 HR hbad
    go_wp2_with fail
    try rw [Exit.jump_ret]
    go_ret2
    exact ⟨rfl, hb⟩
  · intro H
    rcases two with two | ⟨rfl, m, k, hcn, hm, hrd⟩
    · go_wp2_with fail
      refine (rd_count_no _ HR.out two).mono ?_
      rintro e w2 ⟨rfl, ⟨bs', hr2⟩, hg2⟩
      have hb2 : Below w.heap.size w w2 := HB0.out.grown hg2 (by simp) (fun g hg' => by injection hg' with h; omega)
      obtain ⟨A1, n1, c1, hb1, _⟩ := hr2
      have h1' : w2.cell? ⟨w.heap.size, 1, none⟩ = some (.bool true) := hb1.at_ rfl
      clear hg2 hb1 two HR HB0 hbad
      go_wp2_with fail
      go_loopw [4, 7] (fun l t wr => t = .int .i64 0 ∧ w2 = wr) (fun _ t _ => (intOf t).toNat)
      case atStart => exact ⟨rfl, rfl⟩
      case round =>
        obtain ⟨rfl, rfl⟩ := hrel
        go_wp2_with fail
        go_step3
        rename_i hk
        exact hk _ _ (H _ _ ⟨_, _, _, _, _, _, _, _, _, _, _, _, _, _, _, _, _, _, _, _, _, _, _, _, _, _, _, _, _, _, _, _, _, _, _, _, _, _, _, _, _, _, _, _, rfl, hb2⟩)
    · have HC := hide hcn
      have HD := hide hrd
      clear hcn hrd
      go_wp2_with fail
      refine (rd_count_yes _ HR.out HC.out).mono ?_
      rintro e w2 ⟨rfl, hr2, hg2⟩
      have hb2 : Below w.heap.size w w2 := HB0.out.grown hg2 (by simp) (fun g hg' => by injection hg' with h; omega)
      clear hg2 HR HB0 hbad
      go_wp2_with fail
      go_loopw [4, 7] (fun l t wr => ∃ (j : Nat) (ys : List ByteArray) (rest : List UInt8), t = .int .i64 j ∧ Hid (rdL oneT j rest = none) ∧ ys.length + j ≤ 1048576 ∧ Rd wr w.heap.size rest false ∧ wr.ownsRow w.heap.size 9 1 l ys.length (strs ys) ∧ Below w.heap.size w wr) (fun _ t _ => (intOf t).toNat)
      case atStart => exact ⟨m, [], bs.drop k, rfl, HD, by simpa using hm, hr2, World.ownsRow_nil _ _ _ _, hb2⟩
      case round =>
        obtain ⟨j, ys, rest, rfl, HZ, hyj, hr, hown, hb⟩ := hrel
        clear hr2 hb2
        obtain ⟨wo, rfl⟩ : ∃ wo : World, wo = wr := ⟨_, rfl⟩
        have hsz := hb.size
        have hlt0 : w.heap.size < wo.heap.size := hr.lt
        cases j with
        | zero =>
          have hpos := rdL_zero_no HZ.out
          obtain ⟨A1, n1, c1, hb1, hs1, _⟩ := hr
          have h0 : wo.cell? ⟨w.heap.size, 0, none⟩ = some (.slice A1 n1 c1) := hb1.at_ rfl
          have h1 : wo.cell? ⟨w.heap.size, 1, none⟩ = some (.bool false) := hb1.at_ rfl
          have hn1 : ((n1 : Int) == 0) = false := by
            have := hs1.blen
            simp; omega
          clear hb1 hs1 hpos
          go_wp2_with fail
          go_step3
          rename_i hk
          exact hk _ _ (H _ _ ⟨_, _, _, _, _, _, _, _, _, _, _, _, _, _, _, _, _, _, _, _, _, _, _, _, _, _, _, _, _, _, _, _, _, _, _, _, _, _, _, _, _, _, _, _, rfl, hb⟩)
        | succ j =>
          obtain ⟨A2, c2, rfl⟩ := own_slice hown
          rcases rdL_less HZ.out with h1 | ⟨a, r', h1, h2⟩
          · have H1 := hide h1
            clear h1
            go_wp2_with fail
            refine (rd_oneT_no _ hr H1.out).mono ?_
            rintro e w3 ⟨⟨a, rfl⟩, ⟨r', hr3⟩, hg3⟩
            obtain ⟨hown3, hb3, hlt3⟩ := rd_call (by decide) hr hown hb hr3 hg3
            clear hown hb hg3 hr
            go_wp2_with (at_builtin; refine wpList_append_own _ rfl _ _ 45 rfl w.heap.size 9 i0 (.string ByteArray.empty) 1 16 Try.underlying45 hi hz0 hz1 hz2 rfl (by decide) _ _ _ rfl (hown3.alloc _) ⟨w3.heap.size, 0, none⟩ 1 1 [.string a] rfl rfl (news_one _ _ _) (one_str _) (by unfold maxLen; omega) (by omega) (by simp; omega) ?_)
            intro v4 w4 hown4 hg4 _
            obtain ⟨hr4, hb4⟩ := rd_grow (by decide) hr3 hown3 hb3 hg4
            obtain ⟨A5, n5, c5, hb5, _⟩ := hr4
            have h1' : w4.cell? ⟨w.heap.size, 1, none⟩ = some (.bool true) := hb5.at_ rfl
            clear hown4 hg4 hown3 hb3 hr3 hb5
            go_wp2_with fail
            go_step3
            repeat (first | refine Exit.then_goto ?_ | refine Exit.inBlock_goto ?_)
            exact Exit.jump_goto ⟨_, _, _, _, _, _, _, _, _, _, _, _, _, _, _, _, _, _, _, _, _, _, _, _, _, _, _, _, _, _, _, _, _, _, _, _, _, _, _, _, _, _, _, _, rfl, hb4⟩
          · have H1 := hide h1
            have H2 := hide h2
            clear h1 h2
            go_wp2_with fail
            refine (rd_oneT_yes _ hr H1.out).mono ?_
            rintro e w3 ⟨rfl, hr3, hg3⟩
            obtain ⟨hown3, hb3, hlt3⟩ := rd_call (by decide) hr hown hb hr3 hg3
            clear hown hb hg3 hr
            go_wp2_with (at_builtin; refine wpList_append_own _ rfl _ _ 45 rfl w.heap.size 9 i0 (.string ByteArray.empty) 1 16 Try.underlying45 hi hz0 hz1 hz2 rfl (by decide) _ _ _ rfl (hown3.alloc _) ⟨w3.heap.size, 0, none⟩ 1 1 [.string a] rfl rfl (news_one _ _ _) (one_str _) (by unfold maxLen; omega) (by omega) (by simp; omega) ?_)
            intro v4 w4 hown4 hg4 _
            obtain ⟨hr4, hb4⟩ := rd_grow (by decide) hr3 hown3 hb3 hg4
            have hown5 : w4.ownsRow w.heap.size 9 1 v4 (ys ++ [a]).length (strs (ys ++ [a])) := by
              have e : strs (ys ++ [a]) = strs ys ++ [.string a] := by simp [strs]
              rw [e, List.length_append]; exact hown4
            have hrr := hide hr4
            obtain ⟨A5, n5, c5, hb5, _⟩ := hr4
            have h1' : w4.cell? ⟨w.heap.size, 1, none⟩ = some (.bool false) := hb5.at_ rfl
            clear hown4 hg4 hown3 hb3 hr3 hb5
            go_wp2_with fail
            go_roundw
            case rel => exact ⟨j, ys ++ [a], r', by go_num, H2, by simp; omega, hrr.out, hown5, hb4⟩
            case measure => simp [intOf]

set_option maxHeartbeats 400000 in
theorem wire_Get_yes {A : Option Addr} {n c : Nat} {bs : List UInt8} {ls : List ByteArray} (w : World) (hs : Sl w 1 A n (bytes8 bs)) (hnc : n ≤ c) (hc : c ≤ 9223372036854775807) (hg : getT bs = some ls) :
    Calls Try.prog 60 #[.slice A n c] w fun e w' => ∃ v, e = .returned (.tuple #[v, .int .i64 0]) ∧ w'.ownsRow w.heap.size 9 1 v ls.length (strs ls) ∧ Below w.heap.size w w' := by
  have HG := hide hg
  clear hg
  go_enter Try.func60, Try.ntmps60
  go_wp2_with fail
  refine (wire_listT_yes _ hs hnc hc HG.out).mono ?_
  rintro e w1 ⟨v, rfl, h1, h2⟩
  go_wp2_with fail
  go_ret2
  exact ⟨_, rfl, h1, h2⟩
set_option maxHeartbeats 400000 in
theorem wire_Get_no {A : Option Addr} {n c : Nat} {bs : List UInt8} (w : World) (hs : Sl w 1 A n (bytes8 bs)) (hnc : n ≤ c) (hc : c ≤ 9223372036854775807) (hg : getT bs = none) :
    Calls Try.prog 60 #[.slice A n c] w fun e w' => e = .returned (.tuple #[.slice none 0 0, .int .i64 1]) ∧ Below w.heap.size w w' := by
  have HG := hide hg
  clear hg
  go_enter Try.func60, Try.ntmps60
  go_wp2_with fail
  refine (wire_listT_no _ hs hnc hc HG.out).mono ?_
  rintro e w1 ⟨rfl, h2⟩
  go_wp2_with fail
  go_ret2
  exact ⟨rfl, h2⟩
end Go.Proofs.Ytflamhndmggiaaa
/-
  Contracts of the reference's reading of texts and numbers.
-/
namespace Go.Proofs.Ytflamhndmggiaaa
open Go.RowKit

theorem gotN_some {bs : List UInt8} {m k : Nat} (h : getN bs = some (m, k)) : gotN bs = (m, k) := by simp [gotN, h]
theorem gotN_none {bs : List UInt8} (h : getN bs = none) : gotN bs = (0, 0) := by simp [gotN, h]
theorem rdL_none_of_short {α : Type} {one : List UInt8 → Option (α × List UInt8)} {e : α → List UInt8} {dom : α → Prop} (C : Codec one e dom) {n : Nat} {r : List UInt8} (h : r.length < n) : rdL one n r = none := by
  cases hr : rdL one n r with
  | none => rfl
  | some l => have := rdL_le C hr; omega
/-- The reference's end: what was read, and whether that is all. -/
def EndL {α : Type} (t : TypeId) (f : α → Value) (o : Option (List α)) (w : World) (e : Ending) (w' : World) : Prop :=
  match o with
  | some l => ∃ v, e = .returned (.tuple #[v, .bool true]) ∧ w'.ownsRow w.heap.size t 1 v l.length (l.map f) ∧ Below w.heap.size w w'
  | none => ∃ v, e = .returned (.tuple #[v, .bool false]) ∧ (∃ A n c, v = .slice A n c) ∧ Below w.heap.size w w'
theorem EndL.no {α : Type} {t : TypeId} {f : α → Value} {o : Option (List α)} {w w' : World} (ho : o = none) (hb : Below w.heap.size w w') (v : Value) (hv : ∃ A n c, v = .slice A n c := by exact ⟨_, _, _, rfl⟩) : EndL t f o w (.returned (.tuple #[v, .bool false])) w' := by
  subst ho; exact ⟨v, rfl, hv, hb⟩
theorem EndL.yes {α : Type} {t : TypeId} {f : α → Value} {o : Option (List α)} {l : List α} {w w' : World} (ho : o = some l) (hb : Below w.heap.size w w') {v : Value} (h : w'.ownsRow w.heap.size t 1 v l.length (l.map f)) : EndL t f o w (.returned (.tuple #[v, .bool true])) w' := by
  subst ho; exact ⟨v, rfl, h, hb⟩
theorem EndL.two {α : Type} {t : TypeId} {f : α → Value} {o : Option (List α)} {b : Bool} {w w' : World} {v : Value} (hv : ∃ A n c, v = .slice A n c) (hb : Below w.heap.size w w') (h1 : b = false → o = none) (h2 : b = true → ∃ l, o = some l ∧ w'.ownsRow w.heap.size t 1 v l.length (l.map f)) : EndL t f o w (.returned (.tuple #[v, .bool b])) w' := by
  cases b with
  | false => exact EndL.no (h1 rfl) hb v hv
  | true =>
    obtain ⟨l, h3, h4⟩ := h2 rfl
    exact EndL.yes h3 hb h4
/-- What is left to read, behind those that have been read. -/
def Lf {α : Type} (one : List UInt8 → Option (α × List UInt8)) (bs : List UInt8) (o : Option (List α)) (j at_ : Nat) (ys : List α) : Prop :=
  at_ ≤ bs.length ∧ o = (rdL one j (bs.drop at_)).map (ys ++ ·)
theorem Lf.fail {α : Type} {one : List UInt8 → Option (α × List UInt8)} {bs : List UInt8} {o : Option (List α)} {j a : Nat} {ys : List α} (h : Lf one bs o (j + 1) a ys) (hn : one (bs.drop a) = none) : o = none := by
  rw [h.2, rdL, hn]; rfl
theorem Lf.next {α : Type} {one : List UInt8 → Option (α × List UInt8)} {bs : List UInt8} {o : Option (List α)} {j a a' : Nat} {ys : List α} {x : α} (h : Lf one bs o (j + 1) a ys) (hn : one (bs.drop a) = some (x, bs.drop a')) (ha : a' ≤ bs.length) : Lf one bs o j a' (ys ++ [x]) := by
  refine ⟨ha, ?_⟩
  rw [h.2, rdL, hn]
  simp only
  cases rdL one j (bs.drop a') with
  | none => rfl
  | some l => simp
theorem Lf.end_ {α : Type} {one : List UInt8 → Option (α × List UInt8)} {bs : List UInt8} {o : Option (List α)} {a : Nat} {ys : List α} (h : Lf one bs o 0 a ys) : (a = bs.length → o = some ys) ∧ (a ≠ bs.length → o = none) := by
  obtain ⟨h1, h2⟩ := h
  rw [rdL] at h2
  constructor
  · intro e
    rw [if_pos (by rw [e, List.drop_length])] at h2
    simpa using h2
  · intro e
    rw [if_neg (by rw [List.drop_eq_nil_iff]; omega)] at h2
    simpa using h2

set_option maxRecDepth 100000 in
set_option maxHeartbeats 2000000 in
theorem ref2_Get {A : Option Addr} {n c : Nat} {bs : List UInt8} (w : World) (hs : Sl w 1 A n (bytes8 bs)) (hnc : n ≤ c) (hc : c ≤ 9223372036854775807) :
    Calls Try.prog 61 #[.slice A n c] w (EndL 9 Value.string (getT bs) w) := by
  have HL := hide hs.blen
  obtain ⟨i0, hi, hz0, hz1, hz2⟩ := info_parts Try.infoStr
  by_cases hbig : 1048576 < n
  · have ho : Hid (getT bs = none) := by
      unfold Hid getT getL
      rw [if_pos (by rw [HL.out]; exact hbig)]
    have hd : decide ((1048576 : Int) < (n : Int)) = true := by rw [decide_eq_true_eq]; omega
    clear hbig
    go_enter Try.func61, Try.ntmps61
    go_wp2_with fail
    go_ret2
    exact EndL.no ho.out (Below.refl _ _) _
  · have hd : decide ((1048576 : Int) < (n : Int)) = false := by rw [decide_eq_false_iff_not]; omega
    have hn : n ≤ 1048576 := by omega
    clear hbig
    cases hg : getN bs with
    | none =>
      have ho : Hid (getT bs = none) := by
        unfold Hid getT getL
        rw [if_neg (by rw [HL.out]; omega), hg]
      have HG := hide (gotN_none hg)
      clear hg
      go_enter Try.func61, Try.ntmps61
      go_wp2_with (go_at_call 33; refine (ref2_GetNum _ hs (by omega)).mono ?_; rintro e w1 ⟨rfl, hb1⟩; rw [HG.out])
      go_ret2
      exact EndL.no ho.out hb1 _
    | some p =>
      obtain ⟨m, k⟩ := p
      have HG := hide (gotN_some hg)
      obtain ⟨g1, g2, g3, g4, g5⟩ := getN_some hg
      rw [HL.out] at g5
      have HGL := hide (getL_eq codecT (bs := bs) (m := m) (k := k) (by rw [HL.out]; exact hn) hg)
      have hk0 : ((k : Int) == 0) = false := by simp; omega
      clear hg g2 g3
      by_cases hm : n < m
      · have ho : Hid (getT bs = none) := by
          unfold Hid getT
          rw [HGL.out]
          refine rdL_none_of_short codecT ?_
          rw [List.length_drop, HL.out]; omega
        have hmd : decide (n < m) = true := by rw [decide_eq_true_eq]; omega
        clear hm
        go_enter Try.func61, Try.ntmps61
        go_wp2_with (go_at_call 33; refine (ref2_GetNum _ hs (by omega)).mono ?_; rintro e w1 ⟨rfl, hb1⟩; rw [HG.out])
        go_ret2
        exact EndL.no ho.out hb1 _
      · have hmd : decide (n < m) = false := by rw [decide_eq_false_iff_not]; omega
        have hmn : m ≤ n := by omega
        clear hm
        have HL0 : Hid (Lf oneT bs (getT bs) m k []) := by
          refine ⟨by rw [HL.out]; exact g5, ?_⟩
          unfold getT
          rw [HGL.out]
          simp
        go_enter Try.func61, Try.ntmps61
        go_wp2_with (go_at_call 33; refine (ref2_GetNum _ hs (by omega)).mono ?_; rintro e w1 ⟨rfl, hb1⟩; rw [HG.out])
        go_loopw [5, 6, 7] (fun t l i wr => ∃ (j a : Nat) (ys : List ByteArray), j ≤ m ∧ i = .int .i64 j ∧ a ≤ n ∧ t = .int .i64 a ∧ Hid (Lf oneT bs (getT bs) (m - j) a ys) ∧ Hid (ys.length = j) ∧ wr.ownsRow w.heap.size 9 1 l j (strs ys) ∧ Below w.heap.size w wr) (fun t l i _ => m - (intOf i).toNat)
        case atStart => exact ⟨0, k, [], Nat.zero_le _, rfl, g5, rfl, HL0, rfl, World.ownsRow_nil _ _ _ _, hb1⟩
        case round =>
          obtain ⟨j, a, ys, hj, rfl, ha, rfl, HLf, HY, hown, hb⟩ := hrel
          have hsz := hb.size
          clear hb1
          obtain ⟨wo, rfl⟩ : ∃ wo : World, wo = wr := ⟨_, rfl⟩
          by_cases hlt : j < m
          · obtain ⟨A2, c2, rfl⟩ := own_slice hown
            obtain ⟨j', hj'⟩ : ∃ j', m - j = j' + 1 := ⟨m - j - 1, by omega⟩
            have HLf2 : Hid (Lf oneT bs (getT bs) (j' + 1) a ys) := by rw [← hj']; exact HLf
            have HJ := hide hj'
            clear hj' HLf
            have hc1 := hs.below hb
            have hna : n - a ≤ 9223372036854775807 := by omega
            have h1 : Hid (c = a → Sl wo 1 A (n - a) (bytes8 (bs.drop a)) ∧ getN (bs.drop a) = none) := fun e => by
              have h := hc1.cut (k := a) ha hnc
              rw [if_pos e, drop_bytes] at h
              have hnil : bs.drop a = [] := List.drop_eq_nil_of_le (by rw [HL.out]; omega)
              exact ⟨h, by rw [hnil]; rfl⟩
            have h2 : Hid (¬ c = a → Sl wo 1 (A.map (·.add a)) (n - a) (bytes8 (bs.drop a))) := fun e => by
              have h := hc1.cut (k := a) ha hnc
              rw [if_neg e, drop_bytes, Nat.mul_one] at h
              exact h
            have HS1 := hide hc1
            clear hc1
            go_wp2_with fail
            · have h3 := h1.out (by assumption)
              have ho : Hid (getT bs = none) := HLf2.out.fail (by unfold oneT; rw [h3.2])
              have HG0 := hide (gotN_none h3.2)
              refine (ref2_GetNum _ h3.1 hna).mono ?_
              rintro e w2 ⟨rfl, hb2⟩
              rw [HG0.out]
              have hb3 := hb.trans (hb2.mono hsz)
              clear h3
              go_wp2_with fail
              go_ret2
              exact EndL.no ho.out hb3 _
            · have h3 := h2.out (by assumption)
              refine (ref2_GetNum _ h3 hna).mono ?_
              rintro e w2 ⟨rfl, hb2⟩
              have hsz2 := hb2.size
              have hb3 := hb.trans (hb2.mono hsz)
              have hown2 := own_later hown hb2
              clear h3 hb2 hb hown
              cases hg3 : getN (bs.drop a) with
              | none =>
                have ho : Hid (getT bs = none) := HLf2.out.fail (by unfold oneT; rw [hg3])
                rw [gotN_none hg3]
                clear hg3
                go_wp2_with fail
                go_ret2
                exact EndL.no ho.out hb3 _
              | some q =>
                obtain ⟨x, y⟩ := q
                have HG3 := hide hg3
                have hy0 := (getN_some hg3).2.2.2.1
                have hyl := (getN_some hg3).2.2.2.2
                rw [List.length_drop, HL.out] at hyl
                rw [gotN_some hg3]
                have hy00 : ((y : Int) == 0) = false := by simp; omega
                clear hg3
                by_cases hx : n < a + y + x
                · have hd2 : decide ((n : Int) - a - y < x) = true := by rw [decide_eq_true_eq]; omega
                  have ho : Hid (getT bs = none) := HLf2.out.fail (by
                    unfold oneT
                    rw [HG3.out]
                    simp only
                    rw [if_neg (by rw [List.length_drop, List.length_drop, HL.out]; omega)])
                  clear hx
                  go_wp2_with fail
                  go_ret2
                  exact EndL.no ho.out hb3 _
                · have hd2 : decide ((n : Int) - a - y < x) = false := by rw [decide_eq_false_iff_not]; omega
                  have hx2 : a + y + x ≤ n := by omega
                  have HN : Hid (Lf oneT bs (getT bs) j' (a + y + x) (ys ++ [tx ((bs.drop (a + y)).take x)])) := HLf2.out.next (by
                    unfold oneT
                    rw [HG3.out]
                    simp only
                    rw [if_pos (by rw [List.length_drop, List.length_drop, HL.out]; omega), List.drop_drop, List.drop_drop]) (by rw [HL.out]; exact hx2)
                  obtain ⟨s, HS⟩ : ∃ s, Hid (tx ((bs.drop (a + y)).take x) = s) := ⟨_, rfl⟩
                  rw [HS.out] at HN
                  have hs2 := (hs.below hb3).cut (k := a + y) (by omega) hnc
                  rw [drop_bytes] at hs2
                  have hs3 := hs2.take (k := x) (by omega)
                  rw [take_bytes] at hs3
                  have h5 : c = a + y → (convert 28 9 (.slice A x 0)).run Try.prog w2 = .ok (.string s) w2 := fun e => by
                    rw [if_pos e] at hs3
                    rw [← HS.out]
                    exact run_str_of_bytes w2 _ _ _ Try.underlying28 Try.underlying5 Try.underlying9 hs3
                  have h6 : ¬ c = a + y → (convert 28 9 (.slice (A.map (·.add (a + y))) x (c - (a + y)))).run Try.prog w2 = .ok (.string s) w2 := fun e => by
                    rw [if_neg e, Nat.mul_one] at hs3
                    rw [← HS.out]
                    exact run_str_of_bytes w2 _ _ _ Try.underlying28 Try.underlying5 Try.underlying9 hs3
                  have hw2 : w.heap.size ≤ w2.heap.size := hb3.size
                  clear hx hs2 hs3
                  by_cases hcy : c = a + y
                  · subst hcy
                    go_wp2_with (at_builtin; refine wpList_append_own _ rfl _ _ 45 rfl w.heap.size 9 i0 (.string ByteArray.empty) 1 16 Try.underlying45 hi hz0 hz1 hz2 rfl (by decide) _ _ _ rfl (hown2.alloc _) ⟨w2.heap.size, 0, none⟩ 1 1 [.string s] rfl rfl (news_one _ _ _) (one_str _) (by unfold maxLen; omega) (by omega) (by simp; omega) ?_)
                    all_goals
                      intro v3 w3 hown3 hg3 _
                      have hb4 : Below w.heap.size w w3 := (hb3.alloc hw2 _).grown hg3 (by simp; omega) (fun g hg' => (hown2.lt g hg').1)
                      have hown4 : w3.ownsRow w.heap.size 9 1 v3 (j + 1) (strs (ys ++ [s])) := by
                        have e : strs (ys ++ [s]) = strs ys ++ [.string s] := by simp [strs]
                        rw [e]; exact hown3
                      have HY2 : Hid ((ys ++ [s]).length = j + 1) := by rw [Hid, List.length_append, HY.out]; rfl
                      clear hown3 hg3 hown2 hb3
                      go_wp2_with fail
                      go_roundw
                      case rel => exact ⟨j + 1, a + y + x, ys ++ [s], by omega, by go_num, by omega, by first | rfl | go_num, by rw [show m - (j + 1) = j' by have := HJ.out; omega]; exact HN, HY2, hown4, hb4⟩
                      case measure => simp [intOf]; omega
                  · go_wp2_with (at_builtin; refine wpList_append_own _ rfl _ _ 45 rfl w.heap.size 9 i0 (.string ByteArray.empty) 1 16 Try.underlying45 hi hz0 hz1 hz2 rfl (by decide) _ _ _ rfl (hown2.alloc _) ⟨w2.heap.size, 0, none⟩ 1 1 [.string s] rfl rfl (news_one _ _ _) (one_str _) (by unfold maxLen; omega) (by omega) (by simp; omega) ?_)
                    all_goals
                      intro v3 w3 hown3 hg3 _
                      have hb4 : Below w.heap.size w w3 := (hb3.alloc hw2 _).grown hg3 (by simp; omega) (fun g hg' => (hown2.lt g hg').1)
                      have hown4 : w3.ownsRow w.heap.size 9 1 v3 (j + 1) (strs (ys ++ [s])) := by
                        have e : strs (ys ++ [s]) = strs ys ++ [.string s] := by simp [strs]
                        rw [e]; exact hown3
                      have HY2 : Hid ((ys ++ [s]).length = j + 1) := by rw [Hid, List.length_append, HY.out]; rfl
                      clear hown3 hg3 hown2 hb3
                      go_wp2_with fail
                      go_roundw
                      case rel => exact ⟨j + 1, a + y + x, ys ++ [s], by omega, by go_num, by omega, by first | rfl | go_num, by rw [show m - (j + 1) = j' by have := HJ.out; omega]; exact HN, HY2, hown4, hb4⟩
                      case measure => simp [intOf]; omega
          · obtain rfl : j = m := by omega
            have HE := hide HLf.out
            have hsub : j - j = 0 := by omega
            rw [hsub] at HE
            have HE2 := hide (Lf.end_ HE.out)
            clear HE hsub HLf
            by_cases hae : a = n
            · have he : ((a : Int) == (n : Int)) = true := by simp; omega
              have ho : Hid (getT bs = some ys) := HE2.out.1 (by rw [HL.out]; exact hae)
              clear hae
              go_wp2_with fail
              go_ret2
              refine EndL.yes ho.out hb ?_
              rw [HY.out]
              exact hown
            · have he : ((a : Int) == (n : Int)) = false := by simp; omega
              have ho : Hid (getT bs = none) := HE2.out.2 (by rw [HL.out]; exact hae)
              clear hae
              obtain ⟨Az, cz, rfl⟩ := own_slice hown
              go_wp2_with fail
              go_ret2
              exact EndL.no ho.out hb _

set_option maxRecDepth 100000 in
set_option maxHeartbeats 2000000 in
theorem ref2_GetNums {A : Option Addr} {n c : Nat} {bs : List UInt8} (w : World) (hs : Sl w 1 A n (bytes8 bs)) (hnc : n ≤ c) (hc : c ≤ 9223372036854775807) :
    Calls Try.prog 67 #[.slice A n c] w (EndL 3 (Value.int .i64) (getI bs) w) := by
  have HL := hide hs.blen
  obtain ⟨i0, hi, hz0, hz1, hz2⟩ := info_parts Try.infoInt
  by_cases hbig : 1048576 < n
  · have ho : Hid (getI bs = none) := by
      unfold Hid getI getL
      rw [if_pos (by rw [HL.out]; exact hbig)]
    have hd : decide ((1048576 : Int) < (n : Int)) = true := by rw [decide_eq_true_eq]; omega
    clear hbig
    go_enter Try.func67, Try.ntmps67
    go_wp2_with fail
    go_ret2
    exact EndL.no ho.out (Below.refl _ _) _
  · have hd : decide ((1048576 : Int) < (n : Int)) = false := by rw [decide_eq_false_iff_not]; omega
    have hn : n ≤ 1048576 := by omega
    clear hbig
    cases hg : getN bs with
    | none =>
      have ho : Hid (getI bs = none) := by
        unfold Hid getI getL
        rw [if_neg (by rw [HL.out]; omega), hg]
      have HG := hide (gotN_none hg)
      clear hg
      go_enter Try.func67, Try.ntmps67
      go_wp2_with (go_at_call 33; refine (ref2_GetNum _ hs (by omega)).mono ?_; rintro e w1 ⟨rfl, hb1⟩; rw [HG.out])
      go_ret2
      exact EndL.no ho.out hb1 _
    | some p =>
      obtain ⟨m, k⟩ := p
      have HG := hide (gotN_some hg)
      obtain ⟨g1, g2, g3, g4, g5⟩ := getN_some hg
      rw [HL.out] at g5
      have HGL := hide (getL_eq codecI (bs := bs) (m := m) (k := k) (by rw [HL.out]; exact hn) hg)
      have hk0 : ((k : Int) == 0) = false := by simp; omega
      clear hg g2 g3
      by_cases hm : n < m
      · have ho : Hid (getI bs = none) := by
          unfold Hid getI
          rw [HGL.out]
          refine rdL_none_of_short codecI ?_
          rw [List.length_drop, HL.out]; omega
        have hmd : decide (n < m) = true := by rw [decide_eq_true_eq]; omega
        clear hm
        go_enter Try.func67, Try.ntmps67
        go_wp2_with (go_at_call 33; refine (ref2_GetNum _ hs (by omega)).mono ?_; rintro e w1 ⟨rfl, hb1⟩; rw [HG.out])
        go_ret2
        exact EndL.no ho.out hb1 _
      · have hmd : decide (n < m) = false := by rw [decide_eq_false_iff_not]; omega
        have hmn : m ≤ n := by omega
        clear hm
        have HL0 : Hid (Lf oneI bs (getI bs) m k []) := by
          refine ⟨by rw [HL.out]; exact g5, ?_⟩
          unfold getI
          rw [HGL.out]
          simp
        go_enter Try.func67, Try.ntmps67
        go_wp2_with (go_at_call 33; refine (ref2_GetNum _ hs (by omega)).mono ?_; rintro e w1 ⟨rfl, hb1⟩; rw [HG.out])
        go_loopw [5, 6, 7] (fun t l i wr => ∃ (j a : Nat) (ys : List Int), j ≤ m ∧ i = .int .i64 j ∧ a ≤ n ∧ t = .int .i64 a ∧ Hid (Lf oneI bs (getI bs) (m - j) a ys) ∧ Hid (ys.length = j) ∧ wr.ownsRow w.heap.size 3 1 l j (ints ys) ∧ Below w.heap.size w wr) (fun t l i _ => m - (intOf i).toNat)
        case atStart => exact ⟨0, k, [], Nat.zero_le _, rfl, g5, rfl, HL0, rfl, World.ownsRow_nil _ _ _ _, hb1⟩
        case round =>
          obtain ⟨j, a, ys, hj, rfl, ha, rfl, HLf, HY, hown, hb⟩ := hrel
          have hsz := hb.size
          clear hb1
          obtain ⟨wo, rfl⟩ : ∃ wo : World, wo = wr := ⟨_, rfl⟩
          by_cases hlt : j < m
          · obtain ⟨A2, c2, rfl⟩ := own_slice hown
            obtain ⟨j', hj'⟩ : ∃ j', m - j = j' + 1 := ⟨m - j - 1, by omega⟩
            have HLf2 : Hid (Lf oneI bs (getI bs) (j' + 1) a ys) := by rw [← hj']; exact HLf
            have HJ := hide hj'
            clear hj' HLf
            have hc1 := hs.below hb
            have hna : n - a ≤ 9223372036854775807 := by omega
            have h1 : Hid (c = a → Sl wo 1 A (n - a) (bytes8 (bs.drop a)) ∧ getN (bs.drop a) = none) := fun e => by
              have h := hc1.cut (k := a) ha hnc
              rw [if_pos e, drop_bytes] at h
              have hnil : bs.drop a = [] := List.drop_eq_nil_of_le (by rw [HL.out]; omega)
              exact ⟨h, by rw [hnil]; rfl⟩
            have h2 : Hid (¬ c = a → Sl wo 1 (A.map (·.add a)) (n - a) (bytes8 (bs.drop a))) := fun e => by
              have h := hc1.cut (k := a) ha hnc
              rw [if_neg e, drop_bytes, Nat.mul_one] at h
              exact h
            have HS1 := hide hc1
            clear hc1
            go_wp2_with fail
            · have h3 := h1.out (by assumption)
              have ho : Hid (getI bs = none) := HLf2.out.fail (by unfold oneI; rw [h3.2])
              have HG0 := hide (gotN_none h3.2)
              refine (ref2_GetNum _ h3.1 hna).mono ?_
              rintro e w2 ⟨rfl, hb2⟩
              rw [HG0.out]
              have hb3 := hb.trans (hb2.mono hsz)
              clear h3
              go_wp2_with fail
              go_ret2
              exact EndL.no ho.out hb3 _
            · have h3 := h2.out (by assumption)
              refine (ref2_GetNum _ h3 hna).mono ?_
              rintro e w2 ⟨rfl, hb2⟩
              have hsz2 := hb2.size
              have hb3 := hb.trans (hb2.mono hsz)
              have hown2 := own_later hown hb2
              clear h3 hb2 hb hown
              cases hg3 : getN (bs.drop a) with
              | none =>
                have ho : Hid (getI bs = none) := HLf2.out.fail (by unfold oneI; rw [hg3])
                rw [gotN_none hg3]
                clear hg3
                go_wp2_with fail
                go_ret2
                exact EndL.no ho.out hb3 _
              | some q =>
                obtain ⟨x, y⟩ := q
                have HG3 := hide hg3
                have hy0 := (getN_some hg3).2.2.2.1
                have hyl := (getN_some hg3).2.2.2.2
                rw [List.length_drop, HL.out] at hyl
                rw [gotN_some hg3]
                have hy00 : ((y : Int) == 0) = false := by simp; omega
                clear hg3
                have HN : Hid (Lf oneI bs (getI bs) j' (a + y) (ys ++ [(x : Int)])) := HLf2.out.next (by
                  unfold oneI
                  rw [HG3.out]
                  simp only
                  rw [List.drop_drop]) (by rw [HL.out]; omega)
                have hw2 : w.heap.size ≤ w2.heap.size := hb3.size
                · go_wp2_with (at_builtin; refine wpList_append_own _ rfl _ _ 46 rfl w.heap.size 3 i0 (.int .i64 0) 1 8 Try.underlying46 hi hz0 hz1 hz2 rfl (by decide) _ _ _ rfl (hown2.alloc _) ⟨w2.heap.size, 0, none⟩ 1 1 [.int .i64 x] rfl rfl (news_one _ _ _) (one_int64 _) (by unfold maxLen; omega) (by omega) (by simp; omega) ?_)
                  all_goals
                    intro v3 w3 hown3 hg3 _
                    have hb4 : Below w.heap.size w w3 := (hb3.alloc hw2 _).grown hg3 (by simp; omega) (fun g hg' => (hown2.lt g hg').1)
                    have hown4 : w3.ownsRow w.heap.size 3 1 v3 (j + 1) (ints (ys ++ [(x : Int)])) := by
                      have e : ints (ys ++ [(x : Int)]) = ints ys ++ [.int .i64 x] := by simp [ints]
                      rw [e]; exact hown3
                    have HY2 : Hid ((ys ++ [(x : Int)]).length = j + 1) := by rw [Hid, List.length_append, HY.out]; rfl
                    clear hown3 hg3 hown2 hb3
                    go_wp2_with fail
                    go_roundw
                    case rel => exact ⟨j + 1, a + y, ys ++ [(x : Int)], by omega, by go_num, by omega, by first | rfl | go_num, by rw [show m - (j + 1) = j' by have := HJ.out; omega]; exact HN, HY2, hown4, hb4⟩
                    case measure => simp [intOf]; omega
          · obtain rfl : j = m := by omega
            have HE := hide HLf.out
            have hsub : j - j = 0 := by omega
            rw [hsub] at HE
            have HE2 := hide (Lf.end_ HE.out)
            clear HE hsub HLf
            by_cases hae : a = n
            · have he : ((a : Int) == (n : Int)) = true := by simp; omega
              have ho : Hid (getI bs = some ys) := HE2.out.1 (by rw [HL.out]; exact hae)
              clear hae
              go_wp2_with fail
              go_ret2
              refine EndL.yes ho.out hb ?_
              rw [HY.out]
              exact hown
            · have he : ((a : Int) == (n : Int)) = false := by simp; omega
              have ho : Hid (getI bs = none) := HE2.out.2 (by rw [HL.out]; exact hae)
              clear hae
              obtain ⟨Az, cz, rfl⟩ := own_slice hown
              go_wp2_with fail
              go_ret2
              exact EndL.no ho.out hb _
end Go.Proofs.Ytflamhndmggiaaa
