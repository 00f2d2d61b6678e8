
/-
  Contracts of package book: Digest.
-/
import Derived.Test.YtflamhndmggiaaaBkC0
namespace Go.Proofs.Ytflamhndmggiaaa
open Go.RowKit

set_option maxRecDepth 100000 in
set_option maxHeartbeats 1000000 in
theorem book_Digest_old {G : Nat → Prop} {g : Nat} {L : List (List UInt8)} {sg : Int × Int → Bool} {A : Option Addr} {n c i : Nat} {x : List UInt8} (w : World) (h : BkI G w g L sg) (hs : Sl w 1 A n (bytes8 x)) (hn : n ≤ 9223372036854775807) (hf : Hid (fnd L x = some i)) :
    Calls Try.prog 16 #[.pointer (some ⟨g, 0, none⟩), .slice A n c] w fun e w' => e = .returned (.tuple #[.int .i64 ((i : Int) + 1), .int .i64 0]) ∧ ∃ q, w' = w.drewN q := by
  obtain ⟨m1, m2, A1, c1, k0, _, _, hl, hm, _⟩ := h.open_
  clear h
  have hc : ∀ q, (convert 28 9 (.slice A n c)).run Try.prog (w.drewN q) = .ok (.string (tx x)) (w.drewN q) := fun q => run_str_of_bytes _ _ _ _ Try.underlying28 (by kernel_rfl) (by kernel_rfl) (hs.drewN q)
  have hr : ∀ q, (Instr.lookup 100 (.map (some m1)) (.string (tx x)) true).run Try.prog (w.drewN q) = .ok (.tuple #[.int .i64 ((i : Int) + 1), .bool true]) (w.drewN q) := fun q => by
    have := (hm.drewN q).look keys_str under_numbers (zero_int _) (tx x) true
    obtain ⟨e1, e2⟩ := numF_look L x
    rw [e1, e2, hf.out] at this
    exact this
  clear hm hs hf
  generalize tx x = s at hc hr
  go_enter Try.func16, Try.ntmps16
  go_wp2_with fail
  refine scope_loop 0 (fun a w' => ∃ (u0 u1 u2 u3 u4 u5 u7 u8 u9 u10 u11 u12 u13 u14 u15 u16 u17 u18 u19 u20 u21 u22 u23 u24 u25 u26 u27 u28 u29 u30 u31 u32 u33 u34 u35 u36 u37 u38 u39 u40 u41 u42 u43 u44 u45 u46 u47 u48 : Value), a = { tmps := #[u0, u1, u2, u3, u4, u5, .int .i64 ((i : Int) + 1), u7, u8, u9, u10, u11, u12, u13, u14, u15, u16, u17, u18, u19, u20, u21, u22, u23, u24, u25, u26, u27, u28, u29, u30, u31, u32, u33, u34, u35, u36, u37, u38, u39, u40, u41, u42, u43, u44, u45, u46, u47, u48], defers := [] } ∧ Hid (∃ q, w' = w.drewN q)) (fun _ _ => 0) rfl ?_ ?_
  · rintro a w' ⟨u0, u1, u2, u3, u4, u5, u7, u8, u9, u10, u11, u12, u13, u14, u15, u16, u17, u18, u19, u20, u21, u22, u23, u24, u25, u26, u27, u28, u29, u30, u31, u32, u33, u34, u35, u36, u37, u38, u39, u40, u41, u42, u43, u44, u45, u46, u47, u48, rfl, HF⟩
    go_wp2_with fail
    try rw [Exit.jump_ret]
    go_ret2
    exact ⟨rfl, HF.out⟩
  · intro H
    go_wp2_with fail
    go_quiet (fail)
    go_wp2_with fail
    go_step3
    repeat (first | refine Exit.then_goto ?_ | refine Exit.inBlock_goto ?_)
    exact Exit.jump_goto ⟨_, _, _, _, _, _, _, _, _, _, _, _, _, _, _, _, _, _, _, _, _, _, _, _, _, _, _, _, _, _, _, _, _, _, _, _, _, _, _, _, _, _, _, _, _, _, _, _, rfl, ⟨_, rfl⟩⟩
set_option maxRecDepth 100000 in
set_option maxHeartbeats 2000000 in
theorem book_Digest_new {G : Nat → Prop} {g : Nat} {L : List (List UInt8)} {sg : Int × Int → Bool} {A : Option Addr} {n c : Nat} {x : List UInt8} (w : World) (h : BkI G w g L sg) (hs : Sl w 1 A n (bytes8 x)) (hn : Hid (n ≤ 1048576)) (hf : Hid (fnd L x = none)) (hL : Hid (L.length ≤ 65535)) (hA : Hid (0 < n → ∀ b off, A = some ⟨b, off, none⟩ → ¬ G b)) :
    Calls Try.prog 16 #[.pointer (some ⟨g, 0, none⟩), .slice A n c] w fun e w' => e = .returned (.tuple #[.int .i64 ((L.length : Int) + 1), .int .i64 0]) ∧ BkN G g (L ++ [x]) sg w w' := by
  obtain ⟨i0, hi, hz0, hz1, hz2⟩ := info_parts infoRow
  have hlen := hs.blen
  obtain ⟨hlt, hin, hsm, F, E, m1, m2, v, h1, h2, h3, h4, h5, h6, h7, h8, h9, h10, h11⟩ := h
  obtain ⟨A1, c1, els, rfl, hown, hrow, hel⟩ := id h11
  have HG := hide (And.intro hlt (And.intro hin (And.intro hsm (And.intro h1 (And.intro h2 (And.intro h3 (And.intro h4 (And.intro h5 (And.intro h6 h7)))))))))
  clear hlt hin hsm h1 h2 h3 h4 h5 h6 h7
  have HM1 := hide h9
  have HM2 := hide h10
  have HRW := hide h11
  have HBK := hide h8
  have HOW := hide hown
  have HROW := hide hrow
  have HEL := hide hel
  have HS := hide hs
  have k0 : w.cell? ⟨g, 0, none⟩ = some (.map (some m1)) := h8.at_ rfl
  have hc : ∀ q, (convert 28 9 (.slice A n c)).run Try.prog (w.drewN q) = .ok (.string (tx x)) (w.drewN q) := fun q => run_str_of_bytes _ _ _ _ Try.underlying28 (by kernel_rfl) (by kernel_rfl) (hs.drewN q)
  have hr : ∀ q, (Instr.lookup 100 (.map (some m1)) (.string (tx x)) true).run Try.prog (w.drewN q) = .ok (.tuple #[.int .i64 0, .bool false]) (w.drewN q) := fun q => by
    have := (h9.drewN q).look keys_str under_numbers (zero_int _) (tx x) true
    obtain ⟨e1, e2⟩ := numF_look L x
    rw [e1, e2, hf.out] at this
    exact this
  clear h8 h9 h10 h11 hown hrow hel hs
  obtain ⟨s, HSX⟩ : ∃ s, Hid (tx x = s) := ⟨_, rfl⟩
  rw [HSX.out] at hc hr
  obtain ⟨N, HN⟩ : ∃ N, Hid (L.length = N) := ⟨_, rfl⟩
  rw [HN.out] at HBK HOW hL ⊢
  have hNb : ((N : Int) == 65536) = false := by have := hL.out; simp; omega
  have hNm : N ≤ 9223372036854775807 := by have := hL.out; omega
  go_enter Try.func16, Try.ntmps16
  go_wp2_with fail
  refine scope_loop 0 (fun a w' => ∃ (u0 u1 u2 u3 u4 u5 u7 u8 u9 u10 u11 u12 u13 u14 u15 u16 u17 u18 u19 u20 u21 u22 u23 u24 u25 u26 u27 u28 u29 u30 u31 u32 u33 u34 u35 u36 u37 u38 u39 u40 u41 u42 u43 u44 u45 u46 u47 u48 : Value), a = { tmps := #[u0, u1, u2, u3, u4, u5, .int .i64 ((N : Int) + 1), u7, u8, u9, u10, u11, u12, u13, u14, u15, u16, u17, u18, u19, u20, u21, u22, u23, u24, u25, u26, u27, u28, u29, u30, u31, u32, u33, u34, u35, u36, u37, u38, u39, u40, u41, u42, u43, u44, u45, u46, u47, u48], defers := [] } ∧ Hid (BkN G g (L ++ [x]) sg w w')) (fun _ _ => 0) rfl ?_ ?_
  · rintro a w' ⟨u0, u1, u2, u3, u4, u5, u7, u8, u9, u10, u11, u12, u13, u14, u15, u16, u17, u18, u19, u20, u21, u22, u23, u24, u25, u26, u27, u28, u29, u30, u31, u32, u33, u34, u35, u36, u37, u38, u39, u40, u41, u42, u43, u44, u45, u46, u47, u48, rfl, HF⟩
    go_wp2_with fail
    try rw [Exit.jump_ret]
    go_ret2
    exact ⟨rfl, HF.out⟩
  · intro H
    go_wp2_with fail
    go_quiet (fail)
    have k1 : (w.drewN nq).cell? ⟨g, 1, none⟩ = some (.slice A1 N c1) := (HBK.out.drewN nq).at_ rfl
    have HB1 := hide (HBK.out.drewN nq)
    have HO1 := hide (own_drewN HOW.out nq)
    have HS1 := hide (HS.out.drewN nq)
    have HW := hide (show w.heap.size = (w.drewN nq).heap.size from rfl)
    have HM1' := hide (HM1.out.drewN nq)
    have HCF := hide ((Chg.refl (fun _ => False) w).drewN nq)
    clear k0 hc hr
    generalize w.drewN nq = w1 at k1 HB1 HO1 HS1 HW HM1' HCF ⊢
    go_upto_region 5 with fail
    have hbd := Below.refl w1.heap.size w1
    have k1a : ∀ o, (w1.alloc o).cell? ⟨g, 1, none⟩ = some (.slice A1 N c1) := fun o => (HB1.out.alloc o).at_ rfl
    go_region_law (first
      | (refine step_append_at _ (by rfl) (.tmp 29) (.tmp 32) _ (by rfl) 0 28 i0 (.slice none 0 0) 1 24 Try.underlying57 hi hz0 hz1 hz2 (by rfl) (by decide) (.slice A1 N c1) N els (by rfl) ((own_later HO1.out (by first | exact hbd | exact hbd.drew | exact hbd.drew.drew)).alloc _) ⟨w6.heap.size, 0, none⟩ 1 1 [.slice A6 n c6] (by rfl) (by rfl) (by first | exact news_one _ _ _ | (have := news_one w6.drew (.slice A6 n c6) 28; exact this)) (by intro u hu; simp at hu; subst hu; rfl) (by have := hL.out; unfold maxLen; omega) (by have := hL.out; omega) (by omega) ?_; intro v8 w8 hown8 hg8 hat8; obtain ⟨A8, c8, rfl⟩ := own_slice hown8; have kb8 := ((HB1.out.later hbd).alloc (.cells #[.slice A6 n c6] 28)).grown hg8 (Ne.symm (own_blk_ne HO1.out HB1.out (by decide))); have b28 : w8.cell? ⟨g, 1, none⟩ = some (.slice A1 N c1) := kb8.at_ rfl; have f8 := kb8.frozen 1)
      | (refine step_enter_ex (by rfl) 69 #[.slice A n c] (by go_simp) (clone_bytes _ (HS1.out.below (by first | exact hbd | exact hbd.drew | exact hbd.drew.drew)) (by have := hn.out; omega)) ?_; rintro v6 w6 ⟨own6, hb6⟩; obtain ⟨A6, c6, rfl⟩ := own_slice own6; have hbd := below_then (by first | exact hbd | exact hbd.drew | exact hbd.drew.drew) hb6; have k1b := (HB1.out.later hbd).at_ (i := 1) rfl; have k1c := ((HB1.out.later hbd).alloc (.cells #[.slice A6 n c6] 28)).at_ (i := 1) rfl)
      | fail)
    all_goals
      have HC6 := hide (HCF.out.then_below (show Below w1.heap.size w1 w6 from ⟨hbd.os, hbd.tape, hbd.output, hbd.size, hbd.block⟩))
      have HO6 : Hid (w6.ownsRow w.heap.size 5 1 (.slice A6 n c6) n (bytes8 x)) := own_mono own6 (Nat.le_of_eq HW.out)
      have G8 := hide hg8
      have O8 := hide hown8
      have T8 := hide hat8
      have KB8 := hide kb8
      clear own6 hb6 hbd hg8 hown8 hat8 kb8 f8 b28 k1 k1a k1b k1c
      obtain ⟨wa, HWA, hca, hza⟩ : ∃ wa : World, (wa.grownBy w8 (Value.slice A1 N c1).ownBlock ∧ ((Value.slice A8 (N + 1) c8).ownBlock = (Value.slice A1 N c1).ownBlock ∨ (Value.slice A8 (N + 1) c8).ownBlock = some wa.heap.size)) ∧ Chg (fun _ => False) w6 wa ∧ w6.heap.size < wa.heap.size := ⟨_, ⟨G8.out, T8.out⟩, (by first | exact (Chg.refl _ _).alloc _ | exact ((Chg.refl _ _).drewN 1).alloc _), by simp⟩
      clear G8 T8
      have HCA := hide hca
      have HZA := hide hza
      have HWA' := hide HWA
      clear hca hza HWA
      obtain ⟨w9, hw9⟩ : ∃ w9, w8.setCell ⟨g, 1, none⟩ (.slice A8 (N + 1) c8) = w9 := ⟨_, rfl⟩
      have HKB9 : Hid (Blk w9 g 103 #[.map (some m1), .slice A8 (N + 1) c8, .map (some m2)]) := by rw [← hw9]; exact KB8.out.set_ 1 (.slice A8 (N + 1) c8)
      have k0 : w9.cell? ⟨g, 0, none⟩ = some (.map (some m1)) := HKB9.out.at_ rfl
      have k1 : w9.cell? ⟨g, 1, none⟩ = some (.slice A8 (N + 1) c8) := HKB9.out.at_ rfl
      have k0d : w9.drew.cell? ⟨g, 0, none⟩ = some (.map (some m1)) := HKB9.out.at_ rfl
      have HC9 : Hid (Chg G w w9) := by
        obtain ⟨hlt, hin, hsm, h1, _⟩ := HG.out
        have q := ((HC6.out.trans HCA.out (fun _ hf => hf.elim)).mono (F' := G) (fun _ hf => hf.elim)).then_grown HWA'.out.1 (fun b e => .inl (h1 b (HROW.out b (by rw [HN.out]; exact e))))
        rw [← hw9]
        exact q.setCell (.inl hin) _
      have HM9 : Hid (Mp w9 m1 Value.string (numF L)) := by
        have l1 := HM1.out.lt
        have z6 := HC6.out.size
        have za := HZA.out
        have q1 := (HM1.out.at_ (w' := wa) ((HCA.out.at_ (by omega) id).trans (HC6.out.at_ l1 id)))
        have q2 := q1.grown HWA'.out.1 (by have := HRW.out.not_map HM1.out; rw [HN.out] at this; exact fun e => this e.symm)
        rw [← hw9]
        exact q2.setCell (fun e => HM1.out.not_blk HBK.out e.symm) _
      have hc9 : (convert 28 9 (.slice A n c)).run Try.prog w9.drew = .ok (.string s) w9.drew := by
        rw [← HSX.out]
        exact run_str_of_bytes _ _ _ _ Try.underlying28 (by kernel_rfl) (by kernel_rfl) ((HS.out.chg HC9.out hA.out).drew)
      obtain ⟨w10, hrun, hm10, hg10, _⟩ := HM9.out.drew.update keys_str under_numbers (tx x) (.int .i64 ((N : Int) + 1))
      rw [HSX.out] at hrun
      have HPOST : Hid (BkN G g (L ++ [x]) sg w w10) := by
        have e1 : els.length = N := by have := HOW.out.1; omega
        refine bk_grow HG.out HN.out hlen hn.out HM2.out HM1.out (by have := HROW.out; rw [HN.out] at this; exact this) (by have := HRW.out; rw [HN.out] at this; exact this) HEL.out e1 HC6.out HO6.out HCA.out HZA.out HWA'.out.1 O8.out HWA'.out.2 HBK.out KB8.out (by rw [hw9]; exact ⟨hg10.os, hg10.tape, hg10.output, hg10.size, hg10.block⟩) (hm10.congr (fun q => ?_))
        rw [← HN.out]
        exact numF_snoc hf.out q
      rw [hw9]
      clear hw9 HM9 hm10 hg10 HKB9 HC9 HWA' HCA HZA HC6 HO6 O8 KB8
      go_wp2_with fail
      go_still_tail 7, (by kernel_rfl)
      change wpList _ _ _ _ _ w9.drew
      go_wp2_with fail
      go_step3
      rename_i hk
      exact hk _ _ (H _ _ ⟨_, _, _, _, _, _, _, _, _, _, _, _, _, _, _, _, _, _, _, _, _, _, _, _, _, _, _, _, _, _, _, _, _, _, _, _, _, _, _, _, _, _, _, _, _, _, _, _, rfl, HPOST⟩)
end Go.Proofs.Ytflamhndmggiaaa
