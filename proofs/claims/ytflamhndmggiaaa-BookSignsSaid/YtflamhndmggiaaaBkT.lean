
/-
  The reference's book: contract of Digest.
-/
import Derived.Test.YtflamhndmggiaaaBkS
namespace Go.Proofs.Ytflamhndmggiaaa
open Go.RowKit

theorem fndN_zero {o : Option Nat} : fndN o = 0 ↔ o = none := by
  cases o with
  | none => simp [fndN]
  | some i => simp [fndN]; omega
set_option maxRecDepth 100000 in
set_option maxHeartbeats 2000000 in
theorem ref5_Digest {G : Nat → Prop} {g : Nat} {L : List (List UInt8)} {ps : List (Int × Int)} {A : Option Addr} {n c : Nat} {x : List UInt8} (w : World) (h : RfI G w g L ps) (hs : Sl w 1 A n (bytes8 x)) (hn : Hid (n ≤ 1048576)) (hL : Hid (L.length ≤ 65535))
    {d : Int} (hd : Hid (digN L x = d)) {L' : List (List UInt8)} (hl : Hid (addL L x = L')) :
    Calls Try.prog 39 #[.pointer (some ⟨g, 0, none⟩), .slice A n c] w fun e w' => e = .returned (.int .i64 d) ∧ RfN G g L' ps w w' := by
  obtain ⟨i0, hi, hz0, hz1, hz2⟩ := info_parts infoRow
  obtain rfl := hd.out
  obtain rfl := hl.out
  have hlen := hs.blen
  have CF := hide (ref5_Find w h hs (c := c) (by have := hn.out; omega) (r := fndN (fnd L x)) rfl)
  unfold digN addL
  cases hf : fnd L x with
  | some i =>
    have HF : Hid (∀ q, RfN G g L ps w (w.drewN q)) := fun q => ⟨G, h.drewN q, fun b hb => .inl hb, (Chg.refl G w).drewN q⟩
    rw [hf] at CF
    have hne : (((i : Int) + 1) == 0) = false := by simp; omega
    simp only [fndN] at CF
    clear h hs hd hl hf hn hL
    go_enter Try.func39, Try.ntmps39
    go_wp2_with fail
    refine CF.out.mono ?_
    rintro e w' ⟨rfl, q, rfl⟩
    go_wp2_with fail
    go_ret
    exact ⟨rfl, HF.out q⟩
  | none =>
    rw [hf] at CF
    simp only [fndN] at CF
    have HS := hide hs
    have HH := hide h
    clear hs hd hl h
    obtain ⟨N, HN⟩ : ∃ N, Hid (L.length = N) := ⟨_, rfl⟩
    rw [HN.out] at hL ⊢
    have hNm : N ≤ 9223372036854775807 := by have := hL.out; omega
    have hNd : decide ((N : Int) < 65536) = true := by have := hL.out; simp; omega
    simp only [Option.isSome_none, Bool.false_eq_true, if_false]
    have HLEN := hide hlen
    clear hf hlen
    go_enter Try.func39, Try.ntmps39
    go_wp2_with fail
    refine CF.out.mono ?_
    rintro e w' ⟨rfl, q, rfl⟩
    have HH1 := hide (HH.out.drewN q)
    have HS1 := hide (HS.out.drewN q)
    have HC1 := hide ((Chg.refl G w).drewN q)
    have HZ1 := hide (show w.heap.size = (w.drewN q).heap.size from rfl)
    clear HH HS CF
    generalize w.drewN q = w1 at HH1 HS1 HC1 HZ1 ⊢
    obtain ⟨A1, c1, els, s2, s3, hbk, hown, -, hpush⟩ := RfG.pushL HH1.out
    rw [HN.out] at hbk hown hpush
    have HB1 := hide hbk
    have HO1 := hide hown
    have HPU := hide hpush
    have k1 : w1.cell? ⟨g, 0, none⟩ = some (.slice A1 N c1) := hbk.at_ rfl
    have k1a : ∀ o, (w1.alloc o).cell? ⟨g, 0, none⟩ = some (.slice A1 N c1) := fun o => (hbk.alloc o).at_ rfl
    clear hbk hown hpush
    go_upto_region 3 with fail
    have hbd := Below.refl w1.heap.size w1
    go_region_law (first
      | (refine step_append_at _ (by rfl) (.tmp 23) (.tmp 26) _ (by rfl) 0 28 i0 (.slice none 0 0) 1 24 Try.underlying57 hi hz0 hz1 hz2 (by rfl) (by decide) (.slice A1 N c1) N els (by rfl) ((own_later HO1.out (by first | exact hbd | exact hbd.drew | exact hbd.drew.drew)).alloc _) ⟨w6.heap.size, 0, none⟩ 1 1 [.slice A6 n c6] (by rfl) (by rfl) (by first | exact news_one _ _ _ | (have := news_one w6.drew (.slice A6 n c6) 28; exact this)) (by intro u hu; simp at hu; subst hu; rfl) (by have := hL.out; unfold maxLen; omega) (by have := hL.out; omega) (by omega) ?_; intro v8 w8 hown8 hg8 hat8; obtain ⟨A8, c8, rfl⟩ := own_slice hown8; have kb8 := ((HB1.out.later hbd).alloc (.cells #[.slice A6 n c6] 28)).grown hg8 (Ne.symm (own_blk_ne HO1.out HB1.out (by decide))); have b28 : w8.cell? ⟨g, 0, none⟩ = some (.slice A1 N c1) := kb8.at_ rfl; have f8 := kb8.frozen 0)
      | (refine step_enter_ex (by rfl) 31 #[.slice A n c] (by go_simp) (ref0_CopyBytes _ _ _ _ _ (HS1.out.below (by first | exact hbd | exact hbd.drew | exact hbd.drew.drew)) (by have := hn.out; omega) (by have := hn.out; omega)) ?_; rintro v6 w6 ⟨own6, hb6⟩; obtain ⟨A6, c6, rfl⟩ := own_slice own6; have hbd := below_then (by first | exact hbd | exact hbd.drew | exact hbd.drew.drew) hb6; have k1b := (HB1.out.later hbd).at_ (i := 0) rfl; have k1c := ((HB1.out.later hbd).alloc (.cells #[.slice A6 n c6] 28)).at_ (i := 0) rfl)
      | fail)
    all_goals
      have HC6 : Hid (Chg (fun _ => False) w1 w6) := Chg.of_below (show Below w1.heap.size w1 w6 from ⟨hbd.os, hbd.tape, hbd.output, hbd.size, hbd.block⟩)
      have HO6 : Hid (w6.ownsRow w1.heap.size 5 1 (.slice A6 n c6) n (bytes8 x)) := own6
      have G8 := hide hg8
      have O8 := hide hown8
      have T8 := hide hat8
      have KB8 := hide kb8
      clear own6 hb6 hbd hg8 hown8 hat8 kb8 f8 b28 k1 k1a k1b k1c
      obtain ⟨wa, HWA, hca, hza⟩ : ∃ wa : World, (wa.grownBy w8 (Value.slice A1 N c1).ownBlock ∧ ((Value.slice A8 (N + 1) c8).ownBlock = (Value.slice A1 N c1).ownBlock ∨ (Value.slice A8 (N + 1) c8).ownBlock = some wa.heap.size)) ∧ Chg (fun _ => False) w6 wa ∧ w6.heap.size < wa.heap.size := ⟨_, ⟨G8.out, T8.out⟩, (by first | exact (Chg.refl _ _).alloc _ | exact ((Chg.refl _ _).drewN 1).alloc _), by simp⟩
      clear G8 T8
      have HPOST : Hid (RfN G g (L ++ [x]) ps w (w8.setCell ⟨g, 0, none⟩ (.slice A8 (N + 1) c8))) := by
        obtain ⟨G2, h, q, cc⟩ := HPU.out w6 wa w8 A6 A8 n c6 c8 x HLEN.out hn.out HC6.out HO6.out hca hza HWA.1 O8.out HWA.2 KB8.out
        exact ⟨G2, h, fun b hb => by rw [HZ1.out]; exact q b hb, HC1.out.trans cc (fun b hb => .inl hb)⟩
      have k9 : (w8.setCell ⟨g, 0, none⟩ (.slice A8 (N + 1) c8)).cell? ⟨g, 0, none⟩ = some (.slice A8 (N + 1) c8) := (KB8.out.set_ 0 _).at_ rfl
      generalize w8.setCell ⟨g, 0, none⟩ (.slice A8 (N + 1) c8) = w9 at HPOST k9 ⊢
      clear hca hza HWA HC6 HO6 O8 KB8
      go_wp2_with fail
      go_ret
      exact ⟨rfl, HPOST.out⟩
end Go.Proofs.Ytflamhndmggiaaa
