/-
  Contracts: a batch's bytes: the reference's.
-/
import Derived.Test.YtihpmaifcebpiaaBatN
import Derived.Test.YtihpmaifcebpiaaTxs
import Derived.Deep.RegionHeld3
import Derived.Deep.DrawnRows
namespace Go.Proofs.Ytihpmaifcebpiaa
open Go.RowKit
attribute [local go_sem ↓] Go.wp_at_zero Go.wp_at_succ

theorem tx_cells_r {w : World} {g : Nat} {s q : Int} {k v : ByteArray} (h : Blk w g 67 #[.int .i64 s, .int .i64 q, .string k, .string v]) :
    w.cell? ⟨g, 0, none⟩ = some (.int .i64 s) ∧ w.cell? ⟨g, 1, none⟩ = some (.int .i64 q) ∧ w.cell? ⟨g, 2, none⟩ = some (.string k) ∧ w.cell? ⟨g, 3, none⟩ = some (.string v) := ⟨h.at_ rfl, h.at_ rfl, h.at_ rfl, h.at_ rfl⟩
theorem bat_cells {w : World} {g : Nat} {a n : Int} {A : Option Addr} {m c : Nat} (h : Blk w g 26 #[.int .i64 a, .int .i64 n, .slice A m c]) :
    w.cell? ⟨g, 0, none⟩ = some (.int .i64 a) ∧ w.cell? ⟨g, 1, none⟩ = some (.int .i64 n) := ⟨h.at_ rfl, h.at_ rfl⟩
set_option maxRecDepth 100000 in
set_option maxHeartbeats 4000000 in
theorem ref4_BatchBytes {A : Option Addr} {m c : Nat} {l : List TxD} (a n : Int) (w : World) (hs : Sl w 4 A m (txsC l)) (hr : mayB a n l = true) :
    Calls Try.prog 20 #[batchV a n A m c] w fun e w' => ∃ v', e = .returned v' ∧ w'.ownsRow w.heap.size 5 1 v' (batchB a n l).length (bytes8 (batchB a n l)) ∧ Below w.heap.size w w' := by
  have hall := mayB_iff.1 hr
  have hsz := batch_size hr
  have HL := hide hs.txlen
  have hm : m ≤ 8 := by rw [← HL.out]; exact hall.2.2.1.2
  obtain ⟨ha0, ha1⟩ := hall.1
  obtain ⟨hn0, hn1⟩ := hall.2.1
  have HT := hide hall.2.2.2
  have HSZ := hide hsz
  clear hall hsz
  obtain ⟨i0, hi, hz0, hz1, hz2⟩ := info_parts Try.infoStr
  have HS := hide hs
  clear hs hr
  unfold batchV
  go_enter Try.func20, Try.ntmps20
  go_wp2_with fail
  have kt := Blk.new w 26 #[.int .i64 a, .int .i64 n, .slice A m c]
  have hbt : Below w.heap.size w (w.alloc (.cells #[.int .i64 a, .int .i64 n, .slice A m c] 26)) := below_alloc w _
  obtain ⟨gt, hgt⟩ : ∃ gt, w.heap.size = gt := ⟨_, rfl⟩
  rw [hgt] at kt hbt ⊢
  have HS2 : Hid (∀ w', Below gt w w' → Sl w' 4 A m (txsC l)) := fun w' h => HS.out.below (hgt ▸ h)
  generalize w.alloc (.cells #[.int .i64 a, .int .i64 n, .slice A m c] 26) = wt at kt hbt ⊢
  have hsz' := hgt ▸ hbt.size
  have k0 : wt.cell? ⟨gt, 0, none⟩ = some (.int .i64 a) := kt.at_ rfl
  have k1 : wt.cell? ⟨gt, 1, none⟩ = some (.int .i64 n) := kt.at_ rfl
  have hbc : Below wt.heap.size wt wt := Below.refl _ _
  have hk : gt < wt.heap.size := kt.lt
  have HGT := hide hgt
  clear hgt
  go_region_held3 (fun w' => w'.cell? ⟨gt, 0, none⟩ = some (.int .i64 a) ∧ w'.cell? ⟨gt, 1, none⟩ = some (.int .i64 n)) (first | exact bat_cells (kt.later hbc) | go_keep)
    ((first
      | (go_at_call 53; refine (ref4_num _ _ (by omega) (by omega) rfl).mono ?_; rintro e w6 ⟨rfl, hb6⟩; have hbc := Below.trans (by first | exact hbc | exact hbc.drew | exact hbc.drew.drew) (hb6.mono (by have := hbc.size; simp; try omega)))
      | fail))
  have hb6' : Below gt w w6 := hbt.trans (hbc.mono hsz')
  have hz6 := hbc.size
  have hown0 := own_of_blk (base := gt) (size := 1) (n := 3) (Blk.new w6 9 #[.string ⟨#[98, 97, 116, 99, 104]⟩, .string (numS a), .string (numS n)]) (by omega) rfl (by omega)
  have HO4 : Hid ((w6.alloc (.cells #[.string ⟨#[98, 97, 116, 99, 104]⟩, .string (numS a), .string (numS n)] 9)).ownsRow gt 9 1 (.slice (some ⟨w6.heap.size, 0, none⟩) 3 3) [batchW, numS a, numS n].length (strs [batchW, numS a, numS n])) := hown0
  have hb4 := hb6'.alloc (by omega) (.cells #[.string ⟨#[98, 97, 116, 99, 104]⟩, .string (numS a), .string (numS n)] 9)
  have kt4 := (kt.later hbc).alloc (.cells #[.string ⟨#[98, 97, 116, 99, 104]⟩, .string (numS a), .string (numS n)] 9)
  clear hown0 hb6' hb6 hbc kt hbt k0 k1
  go_wp2_with fail
  go_loopw [3, 4] (fun b i wr => ∃ (k : Nat) (ys : List ByteArray), k ≤ m ∧ i = .int .i64 k ∧ Hid (ys = batchW :: numS a :: numS n :: (l.take k).flatMap txT) ∧ ys.length ≤ 3 + 4 * k ∧ wr.ownsRow gt 9 1 b ys.length (strs ys) ∧ Blk wr gt 26 #[.int .i64 a, .int .i64 n, .slice A m c] ∧ Below gt w wr) (fun _ i _ => m - (intOf i).toNat)
  case atStart => exact ⟨0, _, Nat.zero_le _, rfl, rfl, by simp, HO4.out, kt4, hb4⟩
  case round =>
    obtain ⟨k, ys, hk', rfl, HY, hyl, hown, kb, hb⟩ := hrel
    obtain ⟨wo, rfl⟩ : ∃ wo : World, wo = wr := ⟨_, rfl⟩
    have hsz : gt ≤ wo.heap.size := by have := kb.lt; omega
    have b2 : wo.cell? ⟨gt, 2, none⟩ = some (.slice A m c) := kb.at_ rfl
    clear hb4 HO4 kt4
    obtain ⟨A5, c5, rfl⟩ := own_slice hown
    by_cases hlt : k < m
    · obtain ⟨b, off, t, rfl, HU, q0, q1, q2, q3, _⟩ := (HS2.out _ hb).tx hlt
      have htx := mayTx_iff.1 (HT.out t (List.mem_of_getElem? HU.out))
      obtain ⟨s, q, tk, tv⟩ := t
      obtain ⟨⟨hs0, hs1⟩, ⟨hq0, hq1⟩, _, _⟩ := htx
      simp only at q0 q1 q2 q3 hs0 hs1 hq0 hq1
      go_wp2_with fail
      have kt := Blk.new wo 67 #[.int .i64 s, .int .i64 q, .string tk, .string tv]
      have ownt := hown.alloc (.cells #[.int .i64 s, .int .i64 q, .string tk, .string tv] 67)
      have kbt := kb.alloc (.cells #[.int .i64 s, .int .i64 q, .string tk, .string tv] 67)
      have hbt : Below gt w (wo.alloc (.cells #[.int .i64 s, .int .i64 q, .string tk, .string tv] 67)) := hb.alloc hsz _
      have hsz2 : gt ≤ (wo.alloc (.cells #[.int .i64 s, .int .i64 q, .string tk, .string tv] 67)).heap.size := by simp; omega
      generalize wo.alloc (.cells #[.int .i64 s, .int .i64 q, .string tk, .string tv] 67) = wt at kt ownt kbt hbt hsz2 ⊢
      obtain ⟨gx, hgx⟩ : ∃ gx, wo.heap.size = gx := ⟨_, rfl⟩
      rw [hgx] at kt ⊢
      have k0 : wt.cell? ⟨gx, 0, none⟩ = some (.int .i64 s) := kt.at_ rfl
      have k1 : wt.cell? ⟨gx, 1, none⟩ = some (.int .i64 q) := kt.at_ rfl
      have k2 : wt.cell? ⟨gx, 2, none⟩ = some (.string tk) := kt.at_ rfl
      have k3 : wt.cell? ⟨gx, 3, none⟩ = some (.string tv) := kt.at_ rfl
      have hbc : Below wt.heap.size wt wt := Below.refl _ _
      clear hown hb q0 q1 q2 q3 hgx kb b2
      go_region_held3 (fun w' => w'.cell? ⟨gx, 0, none⟩ = some (.int .i64 s) ∧ w'.cell? ⟨gx, 1, none⟩ = some (.int .i64 q) ∧ w'.cell? ⟨gx, 2, none⟩ = some (.string tk) ∧ w'.cell? ⟨gx, 3, none⟩ = some (.string tv))
        (first | exact tx_cells_r kt7 | exact tx_cells_r (kt.later hbc) | go_keep)
        ((first
          | (go_at_call 53; refine (ref4_num _ _ (by omega) (by omega) rfl).mono ?_; rintro e w6 ⟨rfl, hb6⟩; have hbc := Below.trans (by first | exact hbc | exact hbc.drew | exact hbc.drew.drew) (hb6.mono (by have := hbc.size; simp; try omega)))
          | (refine step_append_any _ (by rfl) (.tmp 27) (.tmp 38) _ (by rfl) gt 9 i0 (.string ByteArray.empty) 1 16 Try.underlying78 hi hz0 hz1 hz2 (by rfl) (by omega) (.slice A5 ys.length c5) ys.length (strs ys) (by rfl) ((own_later ownt hbc).alloc _) _ 4 4 (strs [numS s, numS q, tk, tv]) (by rfl) (Sl.of_blk (size := 1) (n := 4) (Blk.new _ _ #[.string (numS s), .string (numS q), .string tk, .string tv]) rfl) (strs_one _) (by unfold maxLen; omega) (by omega) (by have := hbc.size; simp; omega) ?_; intro v8 w8 hown8 hg8; have kt7 := ((kt.later hbc).alloc _).grown hg8 (Ne.symm (own_blk_ne (own_later ownt hbc) (kt.later hbc) (by decide))))
          | fail))
      have own9 : w8.ownsRow gt 9 1 v8 (ys ++ txT ⟨s, q, tk, tv⟩).length (strs (ys ++ txT ⟨s, q, tk, tv⟩)) := by
        have e : strs (ys ++ txT ⟨s, q, tk, tv⟩) = strs ys ++ strs [numS s, numS q, tk, tv] := by simp [strs, txT]
        rw [e, List.length_append]; exact hown8
      have HY2 : Hid (ys ++ txT ⟨s, q, tk, tv⟩ = batchW :: numS a :: numS n :: (l.take (k + 1)).flatMap txT) := by
        rw [Hid, take_at HU.out, HY.out, List.flatMap_append]; simp
      have hyl2 : (ys ++ txT ⟨s, q, tk, tv⟩).length ≤ 3 + 4 * (k + 1) := by rw [List.length_append]; simp [txT]; omega
      have hzz := hbc.size
      have kb8 := ((kbt.later hbc).alloc _).grown hg8 (Ne.symm (own_blk_ne (own_later ownt hbc) (kbt.later hbc) (by decide)))
      have hb8 : Below gt w w8 := ((hbt.trans (hbc.mono hsz2)).alloc (by omega) _).grown hg8 (by simp; omega) (fun g hg' => (ownt.lt g hg').1)
      clear hown8 hg8 kt7 kt ownt hbt k0 k1 k2 k3 kbt hbc hb6
      go_wp2_with fail
      go_roundw
      case rel => exact ⟨k + 1, _, by omega, by go_num, HY2, hyl2, own9, kb8, hb8⟩
      case measure => simp [intOf]; omega
    · obtain rfl : k = m := by omega
      have HF : Hid (ys = batchT a n l) := by
        have := HY.out
        rw [List.take_of_length_le (by rw [HL.out]; exact Nat.le_refl _)] at this
        exact this
      have hPB : (putB ys).length ≤ 1048576 := by rw [HF.out]; have := HSZ.out.2; rw [batchB] at this; omega
      go_wp2_with fail
      refine (ref2_Put _ (Sl.of_own hown) (by omega) hPB).mono ?_
      rintro e w6 ⟨v6, rfl, hown6, hb6⟩
      have hb7 := hb.trans (hb6.mono hsz)
      have hown7 := own_mono hown6 hsz
      clear hown6 hb6 hown
      go_wp2_with fail
      go_ret
      refine ⟨_, rfl, ?_, HGT.out ▸ hb7⟩
      rw [batchB, ← HF.out, HGT.out]
      exact hown7
end Go.Proofs.Ytihpmaifcebpiaa
