/-
  Contracts: a batch's bytes: the program's.
-/
import Derived.Test.YtihpmaifcebpiaaBatN
import Derived.Test.YtihpmaifcebpiaaTxs
import Derived.Deep.RegionHeld3
import Derived.Deep.DrawnRows
namespace Go.Proofs.Ytihpmaifcebpiaa
open Go.RowKit
attribute [local go_sem ↓] Go.wp_at_zero Go.wp_at_succ

theorem tx_cells {w : World} {g : Nat} {s q : Int} {k v : ByteArray} (h : Blk w g 67 #[.int .i64 s, .int .i64 q, .string k, .string v]) :
    w.cell? ⟨g, 0, none⟩ = some (.int .i64 s) ∧ w.cell? ⟨g, 1, none⟩ = some (.int .i64 q) ∧ w.cell? ⟨g, 2, none⟩ = some (.string k) ∧ w.cell? ⟨g, 3, none⟩ = some (.string v) := ⟨h.at_ rfl, h.at_ rfl, h.at_ rfl, h.at_ rfl⟩
set_option maxRecDepth 100000 in
set_option maxHeartbeats 1000000 in
theorem batch_Bytes_no {A : Option Addr} {m c : Nat} {l : List TxD} (a n : Int) (w : World) (hs : Sl w 4 A m (txsC l)) (hn : m ≤ 9223372036854775807) (hz : TxZ l) (hr : mayB a n l = false) :
    Calls Try.prog 16 #[batchV a n A m c] w fun e w' => e = .returned (.tuple #[.slice none 0 0, .int .i64 1]) ∧ Below w.heap.size w w' := by
  have hb0 := below_alloc w (.cells #[.int .i64 a, .int .i64 n, .slice A m c] 26)
  have HC := hide (batch_May (c := c) a n _ (hs.below hb0) hn hz hr)
  have HB := hide hb0
  clear hb0 hz hs hr
  unfold batchV at HC ⊢
  go_enter Try.func16, Try.ntmps16
  go_wp2_with fail
  refine HC.out.mono ?_
  rintro e w1 ⟨rfl, hb1⟩
  have HB1 := hide (HB.out.trans (hb1.mono HB.out.size))
  clear hb1
  go_wp2_with fail
  go_ret2
  exact ⟨rfl, HB1.out⟩
set_option maxRecDepth 100000 in
set_option maxHeartbeats 4000000 in
theorem batch_Bytes_yes {A : Option Addr} {m c : Nat} {l : List TxD} (a n : Int) (w : World) (hs : Sl w 4 A m (txsC l)) (hz : TxZ l) (hr : mayB a n l = true) :
    Calls Try.prog 16 #[batchV a n A m c] w fun e w' => ∃ v', e = .returned (.tuple #[v', .int .i64 0]) ∧ w'.ownsRow w.heap.size 5 1 v' (batchB a n l).length (bytes8 (batchB a n l)) ∧ Below w.heap.size w w' := by
  have hall := mayB_iff.1 hr
  have hsz := batch_size hr
  have HL := hide hs.txlen
  have hm : m ≤ 8 := by rw [← HL.out]; exact hall.2.2.1.2
  have hm1 : 1 ≤ m := by rw [← HL.out]; exact hall.2.2.1.1
  obtain ⟨ha0, ha1⟩ := hall.1
  obtain ⟨hn0, hn1⟩ := hall.2.1
  have HT := hide hall.2.2.2
  have HSZ := hide hsz
  clear hall hsz
  obtain ⟨i0, hi, hz0, hz1, hz2⟩ := info_parts Try.infoStr
  have hb0 := below_alloc w (.cells #[.int .i64 a, .int .i64 n, .slice A m c] 26)
  have HBK := hide (Blk.new w 26 #[.int .i64 a, .int .i64 n, .slice A m c])
  have HC := hide (batch_May (c := c) a n _ (hs.below hb0) (by omega) hz hr)
  have HB := hide hb0
  have HS := hide hs
  clear hb0 hz hs hr
  unfold batchV at HC ⊢
  go_enter Try.func16, Try.ntmps16
  go_wp2_with fail
  refine HC.out.mono ?_
  rintro e w1 ⟨rfl, hb1⟩
  have HK := hide (HBK.out.later hb1)
  have HB1 := hide (HB.out.trans (hb1.mono HB.out.size))
  have hgw : w.heap.size < w1.heap.size := HK.out.lt
  have c0 : w1.cell? ⟨w.heap.size, 0, none⟩ = some (.int .i64 a) := HK.out.at_ rfl
  have c1 : w1.cell? ⟨w.heap.size, 1, none⟩ = some (.int .i64 n) := HK.out.at_ rfl
  clear hb1 HC HBK HB
  have kb : Blk (w1.alloc (.cells #[.string ⟨#[98, 97, 116, 99, 104]⟩] 9)) w1.heap.size 9 #[.string ⟨#[98, 97, 116, 99, 104]⟩] := Blk.new _ _ _
  have kn := Blk.new2 w1 (.cells #[.string ⟨#[98, 97, 116, 99, 104]⟩] 9) 3 #[.int .i64 a, .int .i64 n]
  have hsn : Sl _ 1 _ 2 (ints [a, n]) := Sl.of_blk (size := 1) (n := 2) kn rfl
  have hown0 := own_of_blk (base := w.heap.size) (size := 1) (n := 1) (kb.alloc (.cells #[.int .i64 a, .int .i64 n] 3)) (by omega) rfl (by omega)
  have hbl := (HB1.out.alloc HB1.out.size (.cells #[.string ⟨#[98, 97, 116, 99, 104]⟩] 9)).alloc (by simp; omega) (.cells #[.int .i64 a, .int .i64 n] 3)
  have HX0 : Hid (∀ x ∈ [a, n], 0 ≤ x ∧ x ≤ 9223372036854775807) := by intro x hx; simp at hx; omega
  clear kb kn
  go_wp2_with fail
  refine (wire_Texts _ hsn (by omega) HX0.out).mono ?_
  rintro e w2 ⟨v2, rfl, hown2, hb2⟩
  have hown3 := own_later hown0 hb2
  have hbx := hb2.size
  simp at hbx
  have hb3 := hbl.trans (hb2.mono (by simp; omega))
  obtain ⟨A2, c2, rfl⟩ := own_slice hown2
  have hs2 := Sl.of_own hown2
  have HK2 := hide ((HK.out.alloc (.cells #[.string ⟨#[98, 97, 116, 99, 104]⟩] 9)).alloc (.cells #[.int .i64 a, .int .i64 n] 3) |>.later hb2)
  clear hown0 hown2 hb2 hbl hsn
  go_wp2_with (at_builtin; refine wpList_append_any _ rfl _ _ 78 rfl w.heap.size 9 i0 (.string ByteArray.empty) 1 16 Try.underlying78 hi hz0 hz1 hz2 rfl (by decide) _ _ _ rfl hown3 A2 2 c2 (strs ([a, n].map numS)) rfl hs2 (strs_one _) (by unfold maxLen; omega) (by omega) (by omega) ?_)
  intro v4 w4 hown4 hg4
  have hk4 := HK2.out.grown hg4 (Ne.symm (own_blk_ne hown3 HK2.out (by decide)))
  have c2' : w4.cell? ⟨w.heap.size, 2, none⟩ = some (.slice A m c) := hk4.at_ rfl
  have hb4 : Below w.heap.size w w4 := hb3.grown hg4 (by omega) (fun g hg' => (hown3.lt g hg').1)
  have HO4 : Hid (w4.ownsRow w.heap.size 9 1 v4 [batchW, numS a, numS n].length (strs [batchW, numS a, numS n])) := hown4
  clear hown4 hg4 hown3 hb3 hs2 HK2 hk4 c0 c1
  go_wp2_with fail
  go_loopw [4, 21] (fun b i wr => ∃ (k : Nat) (ys : List ByteArray), k ≤ m ∧ i = .int .i64 k ∧ Hid (ys = batchW :: numS a :: numS n :: (l.take k).flatMap txT) ∧ ys.length ≤ 3 + 4 * k ∧ wr.ownsRow w.heap.size 9 1 b ys.length (strs ys) ∧ Below w.heap.size w wr) (fun _ i _ => m - (intOf i).toNat)
  case atStart => exact ⟨0, _, Nat.zero_le _, rfl, rfl, by simp, HO4.out, hb4⟩
  case round =>
    obtain ⟨k, ys, hk, rfl, HY, hyl, hown, hb⟩ := hrel
    obtain ⟨wo, rfl⟩ : ∃ wo : World, wo = wr := ⟨_, rfl⟩
    have hsz := hb.size
    clear hb4 HO4 c2'
    obtain ⟨A5, c5, rfl⟩ := own_slice hown
    by_cases hlt : k < m
    · obtain ⟨b, off, t, rfl, HU, q0, q1, q2, q3, _⟩ := (HS.out.below hb).tx hlt
      have htx := mayTx_iff.1 (HT.out t (List.mem_of_getElem? HU.out))
      obtain ⟨s, q, tk, tv⟩ := t
      obtain ⟨⟨hs0, hs1⟩, ⟨hq0, hq1⟩, _, _⟩ := htx
      simp only at q0 q1 q2 q3 hs0 hs1 hq0 hq1
      have HX2 : Hid (∀ x ∈ [s, q], 0 ≤ x ∧ x ≤ 9223372036854775807) := by intro x hx; simp at hx; omega
      go_wp2_with fail
      have kt := Blk.new wo 67 #[.int .i64 s, .int .i64 q, .string tk, .string tv]
      have ownt := hown.alloc (.cells #[.int .i64 s, .int .i64 q, .string tk, .string tv] 67)
      have hbt : Below w.heap.size w (wo.alloc (.cells #[.int .i64 s, .int .i64 q, .string tk, .string tv] 67)) := hb.alloc hsz _
      generalize wo.alloc (.cells #[.int .i64 s, .int .i64 q, .string tk, .string tv] 67) = wt at kt ownt hbt ⊢
      obtain ⟨gt, hgt⟩ : ∃ gt, wo.heap.size = gt := ⟨_, rfl⟩
      rw [hgt] at kt ⊢
      have hsz' := hbt.size
      have k0 : wt.cell? ⟨gt, 0, none⟩ = some (.int .i64 s) := kt.at_ rfl
      have k1 : wt.cell? ⟨gt, 1, none⟩ = some (.int .i64 q) := kt.at_ rfl
      have k2 : wt.cell? ⟨gt, 2, none⟩ = some (.string tk) := kt.at_ rfl
      have k3 : wt.cell? ⟨gt, 3, none⟩ = some (.string tv) := kt.at_ rfl
      clear hown hb q0 q1 q2 q3 hgt
      go_region_held3 (fun w' => w'.cell? ⟨gt, 0, none⟩ = some (.int .i64 s) ∧ w'.cell? ⟨gt, 1, none⟩ = some (.int .i64 q) ∧ w'.cell? ⟨gt, 2, none⟩ = some (.string tk) ∧ w'.cell? ⟨gt, 3, none⟩ = some (.string tv))
        (first | exact tx_cells kt8 | exact tx_cells kt7 | exact tx_cells (kt7.alloc _) | exact tx_cells kt6 | exact tx_cells (kt6.alloc _) | go_keep)
        ((first
          | (go_at_call 49; refine (wire_Texts _ (xs := [s, q]) (Sl.two_int (by go_simp) (by go_simp)) (by omega) HX2.out).mono ?_; rintro e w6 ⟨v6, rfl, hown6, hb6⟩; obtain ⟨A6, c6, rfl⟩ := own_slice hown6; have own6 : w6.ownsRow w.heap.size 9 1 (.slice A5 ys.length c5) ys.length (strs ys) := own_later (by first | exact ownt.alloc _ | exact (ownt.alloc _).alloc _) hb6; have hbc : Below wt.heap.size wt w6 := Below.trans (by first | exact (((Below.refl _ _).alloc (Nat.le_refl _) _).drew) | exact ((((Below.refl _ _).alloc (Nat.le_refl _) _).alloc (by simp) _).drew)) (hb6.mono (by simp; try omega)); have kt6 := kt.later hbc; have hb6' := hbt.trans (hbc.mono hsz'); have hsz6 := hb6'.size)
          | (have _tok := hown7; refine step_append_any _ (by rfl) (.tmp 32) (.tmp 37) _ (by rfl) w.heap.size 9 i0 (.string ByteArray.empty) 1 16 Try.underlying78 hi hz0 hz1 hz2 (by rfl) (by omega) (.slice A7 (ys.length + 2) c7) (ys.length + 2) (strs ys ++ strs [numS s, numS q]) (by rfl) (by first | exact hown7 | exact hown7.alloc _) _ 2 2 (strs [tk, tv]) (by rfl) (by first | (refine Sl.two_str ?_ ?_ <;> (go_simp; done)) | (refine Sl.grown_old (Sl.below (Sl.two_str ?_ ?_) hb6) hg7 (B := wt.heap.size) ?_ (fun g hg' => (ownt.lt g hg').2) <;> first | (go_simp; done) | (intro b off e; injection e with e; injection e; omega)) | (refine Sl.grown_old (Sl.two_str ?_ ?_) hg7 (B := wt.heap.size) ?_ (fun g hg' => (ownt.lt g hg').2) <;> first | (go_simp; done) | (intro b off e; injection e with e; injection e; have := hbc.size; omega))) (strs_one _) (by unfold maxLen; omega) (by omega) (by first | exact hsz7 | (simp; omega)) ?_; intro v8 w8 hown8 hg8; have hb8 : Below w.heap.size w w8 := (by first | exact hb7.grown hg8 (by omega) (fun g hg' => (hown7.lt g hg').1) | exact (hb7.alloc hsz7 _).grown hg8 (by simp; omega) (fun g hg' => (hown7.lt g hg').1)); have kt8 : Blk w8 gt 67 #[.int .i64 s, .int .i64 q, .string tk, .string tv] := (by first | exact kt7.grown hg8 (Ne.symm (own_blk_ne hown7 kt7 (by decide))) | exact (kt7.alloc _).grown hg8 (Ne.symm (own_blk_ne hown7 kt7 (by decide)))))
          | (have _tok := hown6; refine step_append_any _ (by rfl) (.tmp 25) (.tmp 31) _ (by rfl) w.heap.size 9 i0 (.string ByteArray.empty) 1 16 Try.underlying78 hi hz0 hz1 hz2 (by rfl) (by omega) (.slice A5 ys.length c5) ys.length (strs ys) (by rfl) (by first | exact own6 | exact own6.alloc _) A6 2 c6 (strs [numS s, numS q]) (by rfl) (by first | exact Sl.of_own hown6 | exact (Sl.of_own hown6).alloc _) (strs_one _) (by unfold maxLen; omega) (by omega) (by first | exact hsz6 | (simp; omega)) ?_; intro v7 w7 hown7 hg7; obtain ⟨A7, c7, rfl⟩ := own_slice hown7; have hb7 : Below w.heap.size w w7 := (by first | exact hb6'.grown hg7 (by omega) (fun g hg' => (own6.lt g hg').1) | exact (hb6'.alloc hsz6 _).grown hg7 (by simp; omega) (fun g hg' => (own6.lt g hg').1)); have kt7 : Blk w7 gt 67 #[.int .i64 s, .int .i64 q, .string tk, .string tv] := (by first | exact kt6.grown hg7 (Ne.symm (own_blk_ne own6 kt6 (by decide))) | exact (kt6.alloc _).grown hg7 (Ne.symm (own_blk_ne own6 kt6 (by decide)))); have hsz7 := hb7.size)
          | fail))
      all_goals
        have own9 : w8.ownsRow w.heap.size 9 1 v8 (ys ++ txT ⟨s, q, tk, tv⟩).length (strs (ys ++ txT ⟨s, q, tk, tv⟩)) := by
          have e : strs (ys ++ txT ⟨s, q, tk, tv⟩) = strs ys ++ strs [numS s, numS q] ++ strs [tk, tv] := by simp [strs, txT]
          rw [e, List.length_append]; exact hown8
        have HY2 : Hid (ys ++ txT ⟨s, q, tk, tv⟩ = batchW :: numS a :: numS n :: (l.take (k + 1)).flatMap txT) := by
          rw [Hid, take_at HU.out, HY.out, List.flatMap_append]; simp
        have hyl2 : (ys ++ txT ⟨s, q, tk, tv⟩).length ≤ 3 + 4 * (k + 1) := by rw [List.length_append]; simp [txT]; omega
        clear hown8 hg8 kt8 hown7 hg7 kt7 own6 hown6 hb6 hbc kt6 hb6' hb7 kt ownt hbt k0 k1 k2 k3
        go_wp2_with fail
        go_roundw
        case rel => exact ⟨k + 1, _, by omega, by go_num, HY2, hyl2, own9, hb8⟩
        case measure => simp [intOf]; omega
    · obtain rfl : k = m := by omega
      have HF : Hid (ys = batchT a n l) := by
        have := HY.out
        rw [List.take_of_length_le (by rw [HL.out]; exact Nat.le_refl _)] at this
        exact this
      have hPB : (putB ys).length ≤ 1048576 := by rw [HF.out]; have := HSZ.out.2; rw [batchB] at this; omega
      go_wp2_with fail
      refine (wire_Put _ (Sl.of_own hown) (by omega) hPB).mono ?_
      rintro e w6 ⟨v6, rfl, hown6, hb6⟩
      have hb7 := below_then hb hb6
      have hown7 := own_mono hown6 hsz
      clear hown6 hb6 hown
      go_wp2_with fail
      go_ret2
      refine ⟨_, rfl, ?_, hb7⟩
      rw [batchB, ← HF.out]
      exact hown7
end Go.Proofs.Ytihpmaifcebpiaa
