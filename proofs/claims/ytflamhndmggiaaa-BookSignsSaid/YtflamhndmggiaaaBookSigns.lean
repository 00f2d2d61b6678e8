
/-
  The walk of BookSigns: whatever the argument, the call answers true and changes nothing that was there.
-/
import Derived.Test.YtflamhndmggiaaaBkY
import Derived.Test.YtflamhndmggiaaaBookOnce
namespace Go.Proofs.Ytflamhndmggiaaa
open Go.RowKit

/-- A number below m, as the statements bring one within bounds. -/
def wth (i : Int) (m : Nat) : Nat := ((IntKind.u64.wrap i).tmod m).toNat
theorem wth_lt (i : Int) {m : Nat} (h : 0 < m) : wth i m < m := by
  unfold wth
  have h1 := Int.tmod_lt_of_pos (IntKind.u64.wrap i) (show (0 : Int) < m by omega)
  omega
set_option maxHeartbeats 400000 in
theorem law0_Within_eq (i : Int) (m : Nat) (w : World) (h0 : 0 < m) (h1 : m ≤ 100000) : Calls Try.prog 18 #[.int .i64 i, .int .i64 m] w fun e w' => e = .returned (.int .i64 (wth i m : Nat)) ∧ w = w' := by
  have hm0 : ((m : Int) == 0) = false := by simp; omega
  go_enter Try.func18, Try.ntmps18
  go_wp2_with fail
  go_ret
  have hu := IntKind.u64_wrap_nonneg i
  have hlt := Int.tmod_lt_of_pos (IntKind.u64.wrap i) (show (0 : Int) < m by omega)
  have hge := Int.tmod_nonneg (m : Int) hu
  refine ⟨ret_int ?_, rfl⟩
  have : wrap64 ((IntKind.u64.wrap i).tmod m) = (IntKind.u64.wrap i).tmod m := by unfold wrap64; omega
  rw [this]
  unfold wth
  omega
theorem law0_Within16 (i : Int) (w : World) : Calls Try.prog 18 #[.int .i64 i, .int .i64 16] w fun e w' => e = .returned (.int .i64 (wth i 16 : Nat)) ∧ w = w' := law0_Within_eq i 16 w (by omega) (by omega)
theorem law0_Within5 (i : Int) (w : World) : Calls Try.prog 18 #[.int .i64 i, .int .i64 5] w fun e w' => e = .returned (.int .i64 (wth i 5 : Nat)) ∧ w = w' := law0_Within_eq i 5 w (by omega) (by omega)
/-- The row of bools [17][6]. -/
def sgC (sg : Int × Int → Bool) : Array Value := ((List.range 102).map fun i => Value.bool (sg (((i / 6 : Nat) : Int), ((i % 6 : Nat) : Int)))).toArray
theorem sgC_size (sg : Int × Int → Bool) : (sgC sg).size = 102 := by simp [sgC]
theorem sgC_at (sg : Int × Int → Bool) {W D : Nat} (hW : W ≤ 16) (hD : D ≤ 5) : (sgC sg)[W * 6 + D]? = some (.bool (sg ((W : Int), (D : Int)))) := by
  have h : W * 6 + D < 102 := by omega
  have h1 : (W * 6 + D) / 6 = W := by omega
  have h2 : (W * 6 + D) % 6 = D := by omega
  simp only [sgC, List.getElem?_toArray, List.getElem?_map, List.getElem?_range h, Option.map_some, h1, h2]
theorem sgC_set (sg : Int × Int → Bool) {W D : Nat} (hW : W ≤ 16) (hD : D ≤ 5) : (sgC sg).setIfInBounds (W * 6 + D) (.bool true) = sgC (sgAdd sg ((W : Int), (D : Int))) := by
  apply Array.ext_getElem?
  intro i
  rw [Array.getElem?_setIfInBounds]
  by_cases hi : i < 102
  · have e : ∀ s, (sgC s)[i]? = some (.bool (s (((i / 6 : Nat) : Int), ((i % 6 : Nat) : Int)))) := fun s => by
      simp only [sgC, List.getElem?_toArray, List.getElem?_map, List.getElem?_range hi, Option.map_some]
    rw [e, e]
    unfold sgAdd
    by_cases h : W * 6 + D = i
    · subst h
      rw [if_pos rfl, if_pos (by rw [sgC_size]; exact hi)]
      have h1 : (W * 6 + D) / 6 = W := by omega
      have h2 : (W * 6 + D) % 6 = D := by omega
      rw [h1, h2]
      simp
    · rw [if_neg h]
      have : ¬ ((((i / 6 : Nat) : Int), ((i % 6 : Nat) : Int)) = ((W : Int), (D : Int))) := by
        intro e
        injection e with e1 e2
        omega
      rw [decide_eq_false this, Bool.false_or]
  · have h1 : ¬ W * 6 + D = i := by omega
    rw [if_neg h1, Array.getElem?_eq_none (by rw [sgC_size]; omega), Array.getElem?_eq_none (by rw [sgC_size]; omega)]
/-- The five things. -/
def L5 (k : Nat) : List (List UInt8) := (List.range k).map fun i => [UInt8.ofNat (i + 1)]
theorem L5_len (k : Nat) : (L5 k).length = k := by simp [L5]
theorem L5_none : ∀ k : Fin 5, fnd (L5 k.val) [UInt8.ofNat (k.val + 1)] = none := by decide +kernel
theorem L5_add {k : Nat} (h : k < 5) : addL (L5 k) [UInt8.ofNat (k + 1)] = L5 (k + 1) ∧ digN (L5 k) [UInt8.ofNat (k + 1)] = (k : Int) + 1 := by
  have := L5_none ⟨k, h⟩
  simp only at this
  unfold addL digN
  rw [this]
  refine ⟨?_, by simp [L5_len]⟩
  simp [L5, List.range_succ]
theorem u8_up : ∀ k : Fin 5, IntKind.u8.wrap (((k.val : Nat) : Int) + 1) = ((UInt8.ofNat (k.val + 1)).toNat : Int) := by decide +kernel
def SgOk (sg : Int × Int → Bool) : Prop := ∀ p, sg p = true → 1 ≤ p.1 ∧ p.1 ≤ 16 ∧ 1 ≤ p.2 ∧ p.2 ≤ 5
theorem zero_signed (w : World) : Blk (w.alloc (.cells Try.zeroCells31 31)) w.heap.size 31 (sgC fun _ => false) := by
  rw [show sgC (fun _ => false) = Try.zeroCells31 by kernel_rfl]
  exact Blk.new _ _ _
set_option maxRecDepth 100000 in
set_option maxHeartbeats 1000000 in
theorem walk_BookSigns {v : Value} {w : World} (ho : ∃ A n c, v = .slice A n c ∧ Acts5 w A n) :
    Calls Try.prog 3 #[v] w fun r w' => r = .returned (.bool true) ∧ Below w.heap.size w w' := by
  obtain ⟨A, n, c, rfl, hact⟩ := ho
  have hn := hact.1
  have HACT := hide hact
  clear hact
  go_enter Try.func3, Try.ntmps3
  go_wp2_with fail
  refine (book_New _).mono ?_
  rintro e w1 ⟨g, G, rfl, hB, hlo, hb⟩
  have HBW := hide (BkW.mk hB hlo hb)
  clear hB hlo hb
  go_wp2_with fail
  go_loopw [4] (fun i wr => ∃ (k : Nat) (G : Nat → Prop), k ≤ 5 ∧ i = .int .i64 ((k : Int) + 1) ∧ Hid (BkW w G wr g (L5 k) (fun _ => false))) (fun i _ => 6 - (intOf i).toNat)
  case atStart => exact ⟨0, G, by omega, by simp, HBW⟩
  case round =>
    clear HBW
    obtain ⟨k, G, hk5, rfl, HBW⟩ := hrel
    obtain ⟨wo, rfl⟩ : ∃ wo : World, wo = wr := ⟨_, rfl⟩
    by_cases hlt : k < 5
    · have hd : decide ((k : Int) + 1 ≤ 5) = true := by rw [decide_eq_true_eq]; omega
      have hu := u8_up ⟨k, hlt⟩
      simp only at hu
      have HAD := hide (L5_add hlt)
      obtain ⟨u, HU⟩ : ∃ u, Hid (UInt8.ofNat (k + 1) = u) := ⟨_, rfl⟩
      rw [HU.out] at hu HAD
      have HL6 : Hid ((L5 k).length ≤ 65535) := by rw [Hid, L5_len]; omega
      go_wp2_with fail
      have HB2 := hide (HBW.out.step ((Below.refl _ _).alloc (Nat.le_refl _) (.cells #[.int .u8 (u.toNat : Int)] 5)))
      refine (book_Digest (x := [u]) (n := 1) _ HB2.out.bk (Sl.const wo 5 (.int .u8 (u.toNat : Int)) (0, 0)) (by show 1 ≤ 1048576; omega) HL6 (fun _ b off e hg => by
        have h1 := HBW.out.bk.lt b hg
        injection e with e
        injection e with e1 _
        omega) HAD.out.2 HAD.out.1).mono ?_
      rintro e w2 ⟨rfl, hn2⟩
      obtain ⟨G2, HB3', -⟩ := HB2.out.next hn2
      have HB3 := hide HB3'
      clear hn2 HB3' HB2 HBW
      have hkk : ((k : Int) + 1 != (k : Int) + 1) = false := by simp
      go_wp2_with (go_at_call 17; refine (law5_num _ _).mono ?_; rintro e w' ⟨rfl, rfl⟩)
      go_roundw
      case rel => exact ⟨k + 1, G2, by omega, by go_num, HB3⟩
      case measure => simp [intOf]; omega
    · obtain rfl : k = 5 := by omega
      have HL5 : Hid ((L5 5).length = 5) := L5_len 5
      rw [show ((5 : Nat) : Int) + 1 = 6 from rfl]
      generalize L5 5 = L at HBW HL5
      go_upto_region 11 with fail
      have HS := hide (zero_signed wo)
      have HB1 := hide (HBW.out.step ((Below.refl _ _).alloc (Nat.le_refl _) (.cells Try.zeroCells31 31)))
      have HNG : Hid (¬ G wo.heap.size) := fun h => by have := HBW.out.bk.lt _ h; omega
      have HZG := HBW.out.below.size
      clear HBW
      generalize wo.alloc (.cells Try.zeroCells31 31) = w2 at HS HB1 ⊢
      generalize wo.heap.size = gs at HS HNG HZG ⊢
      go_wp2_with fail
      go_loopw [8] (fun i wr => ∃ (k : Nat) (sg : Int × Int → Bool), k ≤ n ∧ k ≤ 40 ∧ i = .int .i64 k ∧ Hid (BkW w G wr g L sg) ∧ Hid (Blk wr gs 31 (sgC sg)) ∧ Hid (SgOk sg)) (fun i _ => n - (intOf i).toNat)
      case atStart => exact ⟨0, fun _ => false, Nat.zero_le _, by omega, rfl, HB1, HS, (fun p hp => by cases hp)⟩
      case round =>
        clear HB1 HS
        obtain ⟨k, sg, hkn, hk40, rfl, HB, HK, HSG⟩ := hrel
        obtain ⟨wp, rfl⟩ : ∃ wp : World, wp = wr := ⟨_, rfl⟩
        by_cases hlt : k < n
        · by_cases h40 : k < 40
          · have hd40 : decide ((k : Int) < 40) = true := by simp; omega
            obtain ⟨b, off, hA, hc⟩ := HACT.out.2 (by omega)
            obtain ⟨x, y, z, A3, n3, c3, bs, -, q1, q2, -, -, -, -, -, -, -, -⟩ := hc k hlt
            subst hA
            have d1 := cell_later HB.out.below q1
            have d2 := cell_later HB.out.below q2
            clear q1 q2 hc
            have hkI : (k : Int) < (n : Int) := by omega
            have hk0 : (0 : Int) ≤ (k : Int) := by omega
            go_upto_region 14 with fail
            have hw1 : IntKind.i64.wrap (1 + ((wth y 16 : Nat) : Int)) = 1 + ((wth y 16 : Nat) : Int) := IntWalk.i64_in _ (by have := wth_lt y (m := 16) (by omega); omega)
            have hw2 : IntKind.i64.wrap (1 + ((wth z 5 : Nat) : Int)) = 1 + ((wth z 5 : Nat) : Int) := IntWalk.i64_in _ (by have := wth_lt z (m := 5) (by omega); omega)
            go_quiet ((first | (go_at_call 18; with_reducible exact quiet_left (law0_Within16 y _)) | (go_at_call 18; with_reducible exact quiet_left (law0_Within5 z _))))
            have HB2 := hide (HB.out.drewN nq)
            have HK2 := hide (HK.out.drewN nq)
            obtain ⟨W, hW, hW16⟩ : ∃ W : Nat, 1 + ((wth y 16 : Nat) : Int) = (W : Int) ∧ 1 ≤ W ∧ W ≤ 16 := ⟨1 + wth y 16, by omega, by have := wth_lt y (m := 16) (by omega); omega⟩
            obtain ⟨D, hD, hD5⟩ : ∃ D : Nat, 1 + ((wth z 5 : Nat) : Int) = (D : Int) ∧ 1 ≤ D ∧ D ≤ 5 := ⟨1 + wth z 5, by omega, by have := wth_lt z (m := 5) (by omega); omega⟩
            rw [hW, hD]
            clear hw1 hw2 hW hD d1 d2 HB HK
            generalize wp.drewN nq = w3 at HB2 HK2 ⊢
            go_upto_region 15 with fail
            have HR0 : Hid (sgR L.length (W : Int) (D : Int) = 0) := by rw [Hid, HL5.out, sgR, if_pos (by omega), if_pos (by omega)]
            have hBK := HB2.out.bk
            have hKK := HK2.out
            have hNG := HNG.out
            obtain ⟨p, HP⟩ : ∃ p, Hid (sg ((W : Int), (D : Int)) = p) := ⟨_, rfl⟩
            have HC0 : Hid ((sgC sg)[W * 6 + D]? = some (.bool p)) := by rw [Hid, ← HP.out]; exact sgC_at sg (by omega) (by omega)
            have hc0 : w3.cell? ⟨gs, W * 6 + D, none⟩ = some (.bool p) := hKK.at_ HC0.out
            have hWi : (0 : Int) ≤ (W : Int) := by omega
            have hWj : (W : Int) < 17 := by omega
            have hDi : (0 : Int) ≤ (D : Int) := by omega
            have hDj : (D : Int) < 6 := by omega
            have hpp : (p != p) = false := by simp
            ·
              go_region_held3 (fun w' => w'.cell? ⟨gs, W * 6 + D, none⟩ = some (.bool p))
                (first | exact hKK.at_ HC0.out | exact (hKK.drew).at_ HC0.out | go_keep)
                ((first
                  | (go_at_call 19; refine (eq_by HP.out (book_Signed (W : Int) (D : Int) _ (by first | exact hBK | exact hBK.drewN 1))).mono ?_; rintro e w' ⟨rfl, rfl⟩)
                  | (go_at_call 20; refine (book_Sign (W : Int) (D : Int) _ (by first | exact hBK | exact hBK.drewN 1) HR0).mono ?_; rintro e w8 ⟨rfl, h81, h82⟩; have hKK := (show Blk w8 _ _ _ from (by first | exact hKK.chg h82 hNG | exact (hKK.drew).chg h82 hNG)))
                  | (go_at_call 17; refine (law5_num _ _).mono ?_; rintro e w' ⟨rfl, rfl⟩)
                  | fail))
              have HB8 := hide (show BkW w G w8 g L (sgUp 0 sg ((W : Int), (D : Int))) from ⟨h81, HB2.out.lo, HB2.out.below.trans (Chg.to_below (F := G) (by first | exact h82 | exact ⟨h82.os, h82.tape, h82.output, h82.size, h82.block⟩) HB2.out.lo HB2.out.below.size)⟩)
              have k8 : w8.cell? ⟨gs, W * 6 + D, none⟩ = some (.bool p) := hKK.at_ HC0.out
              have f8 := hKK.frozen (W * 6 + D)
              have HK8 := hide hKK
              clear hKK h81 h82 hBK hc0 hNG
              go_upto_region 18 with fail
              have HK9 : Hid (Blk (w8.setCell ⟨gs, W * 6 + D, none⟩ (.bool true)) gs 31 (sgC (sgUp 0 sg ((W : Int), (D : Int))))) := by
                have := HK8.out.set_ (W * 6 + D) (.bool true)
                rw [sgC_set sg (by omega) (by omega)] at this
                exact this
              have HB9 : Hid (BkW w G (w8.setCell ⟨gs, W * 6 + D, none⟩ (.bool true)) g L (sgUp 0 sg ((W : Int), (D : Int)))) := by
                have hc := (Chg.refl (fun b => b = gs) w8).setCell (p := ⟨gs, W * 6 + D, none⟩) (.inl rfl) (.bool true)
                exact ⟨HB8.out.bk.keep hc (fun b hb e => by subst e; exact HNG.out hb), HB8.out.lo, HB8.out.below.trans (hc.to_below (fun b e => by omega) HB8.out.below.size)⟩
              have HSG2 : Hid (SgOk (sgUp 0 sg ((W : Int), (D : Int)))) := fun q hq => by
                rw [sgUp_0] at hq
                unfold sgAdd at hq
                rw [Bool.or_eq_true, decide_eq_true_eq] at hq
                rcases hq with rfl | hq
                · exact ⟨by simp only; omega, by simp only; omega, by simp only; omega, by simp only; omega⟩
                · exact HSG.out q hq
              generalize sgUp 0 sg ((W : Int), (D : Int)) = sg2 at HK9 HB9 HSG2
              generalize w8.setCell ⟨gs, W * 6 + D, none⟩ (.bool true) = w9 at HK9 HB9 ⊢
              clear k8 f8 HK8 HB8 HB2 HK2 HP HC0 hpp
              go_wp2_with fail
              go_loopw [11] (fun i wr => ∃ K : Nat, 1 ≤ K ∧ K ≤ 6 ∧ i = .int .i64 K ∧ Hid (BkW w G wr g L sg2) ∧ Hid (Blk wr gs 31 (sgC sg2))) (fun i _ => 6 - (intOf i).toNat)
              case atStart => exact ⟨1, by omega, by omega, rfl, HB9, HK9⟩
              case round =>
                clear HB9 HK9
                obtain ⟨K, hK1, hK6, rfl, HB9, HK9⟩ := hrel
                obtain ⟨wq, rfl⟩ : ∃ wq : World, wq = wr := ⟨_, rfl⟩
                by_cases hK : K ≤ 5
                · have hKd : decide ((K : Int) ≤ 5) = true := by rw [decide_eq_true_eq]; omega
                  obtain ⟨R, hR⟩ : ∃ R : Nat, W % 16 = R := ⟨_, rfl⟩
                  obtain ⟨V, hV⟩ : ∃ V : Nat, 1 + R = V := ⟨_, rfl⟩
                  have hm0 : (W : Int) % 16 = (R : Int) := by omega
                  have hm1 : (W : Int).tmod 16 = (R : Int) := by rw [Int.tmod_eq_emod_of_nonneg (by omega)]; omega
                  have hm2 : IntKind.i64.wrap (R : Int) = (R : Int) := IntWalk.i64_in _ (by omega)
                  have hm4 : 1 + (R : Int) = (V : Int) := by omega
                  have hm3 : IntKind.i64.wrap (V : Int) = (V : Int) := IntWalk.i64_in _ (by omega)
                  have hV0 : (0 : Int) ≤ (V : Int) := by omega
                  have hV17 : (V : Int) < 17 := by omega
                  have hK0 : (0 : Int) ≤ (K : Int) := by omega
                  have hK7 : (K : Int) < 6 := by omega
                  have c1 : wq.cell? ⟨gs, W * 6 + K, none⟩ = some (.bool (sg2 ((W : Int), (K : Int)))) := HK9.out.at_ (sgC_at sg2 (by omega) (by omega))
                  have c2 : wq.cell? ⟨gs, V * 6 + K, none⟩ = some (.bool (sg2 ((V : Int), (K : Int)))) := HK9.out.at_ (sgC_at sg2 (by omega) (by omega))
                  clear hV hR
                  obtain ⟨p1, HP1⟩ : ∃ p, Hid (sg2 ((W : Int), (K : Int)) = p) := ⟨_, rfl⟩
                  obtain ⟨p2, HP2⟩ : ∃ p, Hid (sg2 ((V : Int), (K : Int)) = p) := ⟨_, rfl⟩
                  rw [HP1.out] at c1
                  rw [HP2.out] at c2
                  have hp1 : (p1 != p1) = false := by simp
                  have hp2 : (p2 != p2) = false := by simp
                  go_upto_region 21 with fail
                  go_quiet ((first | (go_at_call 19; with_reducible exact quiet_left (eq_by HP1.out (book_Signed (W : Int) (K : Int) _ (HB9.out.bk.drewN _)))) | (go_at_call 19; with_reducible exact quiet_left (eq_by HP2.out (book_Signed (V : Int) (K : Int) _ (HB9.out.bk.drewN _))))))
                  have HB10 := hide (HB9.out.drewN nq)
                  have HK10 := hide (HK9.out.drewN nq)
                  clear c1 c2 hm0 hm1 hm2 hm3 hm4
                  go_wp2_with fail
                  go_roundw
                  case rel => exact ⟨K + 1, by omega, by omega, by go_num, HB10, HK10⟩
                  case measure => simp [intOf]; omega
                · obtain rfl : K = 6 := by omega
                  go_wp2_with fail
                  go_roundw
                  case rel => exact ⟨k + 1, sg2, by omega, by omega, by go_num, HB9, HK9, HSG2⟩
                  case measure => simp [intOf]; omega
          · have hd40 : decide ((k : Int) < 40) = false := by simp; omega
            have HS1 : Hid (sgR L.length 0 1 = 1) := by simp [Hid, sgR]
            have HS2 : Hid (sgR L.length 17 1 = 1) := by simp [Hid, sgR]
            have HS3 : Hid (sgR L.length 1 6 = 3) := by rw [Hid, HL5.out]; simp [sgR]
            have HS4 : Hid (sgR L.length 1 0 = 3) := by simp [Hid, sgR]
            have HF1 : Hid (sg (1, 6) = false) := by
              rw [Hid, Bool.eq_false_iff]
              intro h
              have := HSG.out _ h
              simp only at this
              omega
            have HF2 : Hid (sg (0, 1) = false) := by
              rw [Hid, Bool.eq_false_iff]
              intro h
              have := HSG.out _ h
              simp only at this
              omega
            clear HACT HK
            go_wp2_with fail
            refine (book_Sign 0 1 _ HB.out.bk HS1).mono ?_
            rintro e w4 ⟨rfl, h1, h2⟩
            have HB1 := hide (show BkW w G w4 g L sg from ⟨h1, HB.out.lo, HB.out.below.trans (h2.to_below HB.out.lo HB.out.below.size)⟩)
            clear h1 h2 HB
            go_wp2_with fail
            refine (law5_num _ _).mono ?_
            rintro e w' ⟨rfl, rfl⟩
            go_wp2_with fail
            refine (book_Sign 17 1 _ HB1.out.bk HS2).mono ?_
            rintro e w5 ⟨rfl, h1, h2⟩
            have HB := hide (show BkW w G w5 g L sg from ⟨h1, HB1.out.lo, HB1.out.below.trans (h2.to_below HB1.out.lo HB1.out.below.size)⟩)
            clear h1 h2 HB1
            go_wp2_with fail
            refine (law5_num _ _).mono ?_
            rintro e w' ⟨rfl, rfl⟩
            go_wp2_with fail
            refine (book_Sign 1 6 _ HB.out.bk HS3).mono ?_
            rintro e w4 ⟨rfl, h1, h2⟩
            have HB1 := hide (show BkW w G w4 g L sg from ⟨h1, HB.out.lo, HB.out.below.trans (h2.to_below HB.out.lo HB.out.below.size)⟩)
            clear h1 h2 HB
            go_wp2_with fail
            refine (law5_num _ _).mono ?_
            rintro e w' ⟨rfl, rfl⟩
            go_wp2_with fail
            refine (book_Sign 1 0 _ HB1.out.bk HS4).mono ?_
            rintro e w5 ⟨rfl, h1, h2⟩
            have HB := hide (show BkW w G w5 g L sg from ⟨h1, HB1.out.lo, HB1.out.below.trans (h2.to_below HB1.out.lo HB1.out.below.size)⟩)
            clear h1 h2 HB1
            go_wp2_with fail
            refine (law5_num _ _).mono ?_
            rintro e w' ⟨rfl, rfl⟩
            go_wp2_with fail
            refine (eq_by HF1.out (book_Signed 1 6 _ HB.out.bk)).mono ?_
            rintro e w' ⟨rfl, rfl⟩
            go_wp2_with fail
            refine (eq_by HF2.out (book_Signed 0 1 _ HB.out.bk)).mono ?_
            rintro e w' ⟨rfl, rfl⟩
            go_wp2_with fail
            refine (law5_wakes _).mono ?_
            rintro e w6 ⟨rfl, hb6⟩
            have HBB := hide (below_then HB.out.below hb6)
            clear hb6
            go_wp2_with fail
            go_ret
            exact ⟨rfl, HBB.out⟩
        · obtain rfl : k = n := by omega
          have HS1 : Hid (sgR L.length 0 1 = 1) := by simp [Hid, sgR]
          have HS2 : Hid (sgR L.length 17 1 = 1) := by simp [Hid, sgR]
          have HS3 : Hid (sgR L.length 1 6 = 3) := by rw [Hid, HL5.out]; simp [sgR]
          have HS4 : Hid (sgR L.length 1 0 = 3) := by simp [Hid, sgR]
          have HF1 : Hid (sg (1, 6) = false) := by
            rw [Hid, Bool.eq_false_iff]
            intro h
            have := HSG.out _ h
            simp only at this
            omega
          have HF2 : Hid (sg (0, 1) = false) := by
            rw [Hid, Bool.eq_false_iff]
            intro h
            have := HSG.out _ h
            simp only at this
            omega
          clear HACT HK
          go_wp2_with fail
          refine (book_Sign 0 1 _ HB.out.bk HS1).mono ?_
          rintro e w4 ⟨rfl, h1, h2⟩
          have HB1 := hide (show BkW w G w4 g L sg from ⟨h1, HB.out.lo, HB.out.below.trans (h2.to_below HB.out.lo HB.out.below.size)⟩)
          clear h1 h2 HB
          go_wp2_with fail
          refine (law5_num _ _).mono ?_
          rintro e w' ⟨rfl, rfl⟩
          go_wp2_with fail
          refine (book_Sign 17 1 _ HB1.out.bk HS2).mono ?_
          rintro e w5 ⟨rfl, h1, h2⟩
          have HB := hide (show BkW w G w5 g L sg from ⟨h1, HB1.out.lo, HB1.out.below.trans (h2.to_below HB1.out.lo HB1.out.below.size)⟩)
          clear h1 h2 HB1
          go_wp2_with fail
          refine (law5_num _ _).mono ?_
          rintro e w' ⟨rfl, rfl⟩
          go_wp2_with fail
          refine (book_Sign 1 6 _ HB.out.bk HS3).mono ?_
          rintro e w4 ⟨rfl, h1, h2⟩
          have HB1 := hide (show BkW w G w4 g L sg from ⟨h1, HB.out.lo, HB.out.below.trans (h2.to_below HB.out.lo HB.out.below.size)⟩)
          clear h1 h2 HB
          go_wp2_with fail
          refine (law5_num _ _).mono ?_
          rintro e w' ⟨rfl, rfl⟩
          go_wp2_with fail
          refine (book_Sign 1 0 _ HB1.out.bk HS4).mono ?_
          rintro e w5 ⟨rfl, h1, h2⟩
          have HB := hide (show BkW w G w5 g L sg from ⟨h1, HB1.out.lo, HB1.out.below.trans (h2.to_below HB1.out.lo HB1.out.below.size)⟩)
          clear h1 h2 HB1
          go_wp2_with fail
          refine (law5_num _ _).mono ?_
          rintro e w' ⟨rfl, rfl⟩
          go_wp2_with fail
          refine (eq_by HF1.out (book_Signed 1 6 _ HB.out.bk)).mono ?_
          rintro e w' ⟨rfl, rfl⟩
          go_wp2_with fail
          refine (eq_by HF2.out (book_Signed 0 1 _ HB.out.bk)).mono ?_
          rintro e w' ⟨rfl, rfl⟩
          go_wp2_with fail
          refine (law5_wakes _).mono ?_
          rintro e w6 ⟨rfl, hb6⟩
          have HBB := hide (below_then HB.out.below hb6)
          clear hb6
          go_wp2_with fail
          go_ret
          exact ⟨rfl, HBB.out⟩
end Go.Proofs.Ytflamhndmggiaaa
