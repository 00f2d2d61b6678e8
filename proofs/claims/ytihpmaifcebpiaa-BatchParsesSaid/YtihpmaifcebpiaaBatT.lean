/-
  A contract: the reference's reader of batches.
-/
import Derived.Test.YtihpmaifcebpiaaBatS
import Derived.Test.YtihpmaifcebpiaaBatQ
import Derived.Test.YtihpmaifcebpiaaRefG
import Derived.Deep.RegionLaw
import Derived.Deep.RegionHeld3
import Derived.Deep.DeepCutAuto
import Derived.Deep.DrawnRows
namespace Go.Proofs.Ytihpmaifcebpiaa
open Go.RowKit

theorem cell_grown {w w' : World} {p : Addr} {v : Value} {g : Nat} (h : w.grownBy w' (some g)) (c : w.cell? p = some v) (hne : p.block ≠ g) : w'.cell? p = some v := by
  rw [World.cell?_of_block (a := p) (h.block p.block (lt_of_cell c) (by intro e; injection e with e; exact hne e))]
  exact c
/-- What holds at each round's head. -/
def PBRel (w w5 : World) (gk g2 L : Nat) (x1 x2 : ByteArray) (R : List ByteArray) (z1 z2 : Int) (ok i : Value) (wr : World) : Prop :=
  ∃ (k q : Nat) (p : Bool) (ys : List TxD) (v : Value), Hid (q = 3 + 4 * k) ∧ q ≤ L ∧ i = .int .i64 q ∧ ok = .bool p ∧ Hid (p = true → wholeN x1 = some z1 ∧ wholeN x2 = some z2 ∧ rdTxs (R.take (4 * k)) = some ys) ∧ Hid (p = false → rdB (batchW :: x1 :: x2 :: R) = none) ∧
    Hid (TxZ ys) ∧ Blk wr gk 26 #[.int .i64 z1, .int .i64 z2, v] ∧ Blk wr w.heap.size 26 #[.int .i64 0, .int .i64 0, .slice none 0 0] ∧ wr.ownsRow w5.heap.size 67 4 v k (txsC ys) ∧ w5.grownBy wr (some gk)
set_option maxRecDepth 100000 in
set_option maxHeartbeats 4000000 in
theorem ref4_ParseBatch {A : Option Addr} {n c : Nat} {bs : List UInt8} (w : World) (hs : Sl w 1 A n (bytes8 bs)) (hnc : n ≤ c) (hc : c ≤ 9223372036854775807) {r : Option (Int × Int × List TxD)} (hr : Hid (parseB bs = r)) :
    Calls Try.prog 24 #[.slice A n c] w (EndB 67 r w) := by
  obtain ⟨j0, hj, hj0, hj1, hj2⟩ := info_parts Try.infoTx
  have kr := Blk.new w 26 #[.int .i64 0, .int .i64 0, .slice none 0 0]
  have hb0 := below_alloc w (.cells #[.int .i64 0, .int .i64 0, .slice none 0 0] 26)
  have hs1 := hs.alloc (.cells #[.int .i64 0, .int .i64 0, .slice none 0 0] 26)
  have hk0 : w.heap.size < (w.alloc (.cells #[.int .i64 0, .int .i64 0, .slice none 0 0] 26)).heap.size := kr.lt
  clear hs
  cases hgt : getT bs with
  | none =>
    have HNO : Hid (r = none) := by rw [Hid, ← hr.out]; unfold parseB; rw [hgt]
    have HG := hide hgt
    clear hgt hr
    go_enter Try.func24, Try.ntmps24
    go_wp2_with fail
    refine (ref2_Get _ hs1 hnc hc).mono ?_
    intro e w2 he
    rw [HG.out] at he
    obtain ⟨v, rfl, hb2⟩ := EndL.none_ he
    have krq := kr.later hb2
    have hbq := hb0.trans (hb2.mono (Nat.le_of_lt hk0))
    clear he hb2 kr hb0 hs1 hk0
    have r0 : w2.cell? ⟨w.heap.size, 0, none⟩ = some (.int .i64 0) := krq.at_ rfl
    have r1 : w2.cell? ⟨w.heap.size, 1, none⟩ = some (.int .i64 0) := krq.at_ rfl
    have r2 : w2.cell? ⟨w.heap.size, 2, none⟩ = some (.slice none 0 0) := krq.at_ rfl
    have f0 := krq.frozen 0
    have f1 := krq.frozen 1
    have f2 := krq.frozen 2
    go_wp2_with fail
    have KRF : Blk (((w2.setCell ⟨w.heap.size, 0, none⟩ (.int .i64 0)).setCell ⟨w.heap.size, 1, none⟩ (.int .i64 0)).setCell ⟨w.heap.size, 2, none⟩ (.slice none 0 0)) w.heap.size 26 #[.int .i64 0, .int .i64 0, .slice none 0 0] := ((krq.set_ 0 _).set_ 1 _).set_ 2 _
    have HBF := ((hbq.setCell (p := ⟨w.heap.size, 0, none⟩) (Nat.le_refl _) (.int .i64 0)).setCell (p := ⟨w.heap.size, 1, none⟩) (Nat.le_refl _) (.int .i64 0)).setCell (p := ⟨w.heap.size, 2, none⟩) (Nat.le_refl _) (.slice none 0 0)
    clear r0 r1 r2 f0 f1 f2 krq hbq
    generalize ((w2.setCell ⟨w.heap.size, 0, none⟩ (.int .i64 0)).setCell ⟨w.heap.size, 1, none⟩ (.int .i64 0)).setCell ⟨w.heap.size, 2, none⟩ (.slice none 0 0) = wf at KRF HBF ⊢
    have r0 : wf.cell? ⟨w.heap.size, 0, none⟩ = some (.int .i64 0) := KRF.at_ rfl
    have r1 : wf.cell? ⟨w.heap.size, 1, none⟩ = some (.int .i64 0) := KRF.at_ rfl
    have r2 : wf.cell? ⟨w.heap.size, 2, none⟩ = some (.slice none 0 0) := KRF.at_ rfl
    exact bodyPost_ret (v := .tuple #[.agg #[.int .i64 0, .int .i64 0, .slice none 0 0], .bool false]) (by simp [results, Try.results24, go_sem, r0, r1, r2]) rfl (EndB.no HNO.out HBF)
  | some ls =>
    obtain ⟨hbs, hbl, hdom⟩ := getL_back codecT hgt
    have hcount := put_count (e := encT) codecT.pos ls
    rw [← hbs] at hcount
    have HRB : Hid (rdB ls = r) := by rw [Hid, ← hr.out]; unfold parseB; rw [hgt]
    obtain ⟨L, HLL⟩ : ∃ L, Hid (ls.length = L) := ⟨_, rfl⟩
    have hLX : L ≤ 1048576 := by have := HLL.out; omega
    have HDOM := hide hdom
    have HG := hide hgt
    clear hgt hbs hbl hdom hcount hr
    go_enter Try.func24, Try.ntmps24
    go_wp2_with fail
    refine (ref2_Get _ hs1 hnc hc).mono ?_
    intro e w2 he
    rw [HG.out] at he
    obtain ⟨v, rfl, hown2, hb2⟩ := EndL.some_ he
    rw [HLL.out] at hown2
    have krq := kr.later hb2
    have hbq := hb0.trans (hb2.mono (Nat.le_of_lt hk0))
    have hk2 := hb2.size
    have hown3 : w2.ownsRow (w.heap.size + 1) 9 1 v L (strs ls) := own_mono hown2 (by simp)
    simp at hk2
    obtain ⟨A2, c2, rfl⟩ := own_slice hown3
    clear he hb2 kr hb0 hs1 hk0 hown2
    by_cases h7 : L < 7
    · have HNO : Hid (r = none) := by rw [Hid, ← HRB.out]; exact rdB_short (Or.inl (by rw [HLL.out]; exact h7))
      have hd : decide ((L : Int) < 7) = true := by rw [decide_eq_true_eq]; omega
      clear h7 hown3
      have r0 : w2.cell? ⟨w.heap.size, 0, none⟩ = some (.int .i64 0) := krq.at_ rfl
      have r1 : w2.cell? ⟨w.heap.size, 1, none⟩ = some (.int .i64 0) := krq.at_ rfl
      have r2 : w2.cell? ⟨w.heap.size, 2, none⟩ = some (.slice none 0 0) := krq.at_ rfl
      have f0 := krq.frozen 0
      have f1 := krq.frozen 1
      have f2 := krq.frozen 2
      go_wp2_with fail
      have KRF : Blk (((w2.setCell ⟨w.heap.size, 0, none⟩ (.int .i64 0)).setCell ⟨w.heap.size, 1, none⟩ (.int .i64 0)).setCell ⟨w.heap.size, 2, none⟩ (.slice none 0 0)) w.heap.size 26 #[.int .i64 0, .int .i64 0, .slice none 0 0] := ((krq.set_ 0 _).set_ 1 _).set_ 2 _
      have HBF := ((hbq.setCell (p := ⟨w.heap.size, 0, none⟩) (Nat.le_refl _) (.int .i64 0)).setCell (p := ⟨w.heap.size, 1, none⟩) (Nat.le_refl _) (.int .i64 0)).setCell (p := ⟨w.heap.size, 2, none⟩) (Nat.le_refl _) (.slice none 0 0)
      clear r0 r1 r2 f0 f1 f2 krq hbq
      generalize ((w2.setCell ⟨w.heap.size, 0, none⟩ (.int .i64 0)).setCell ⟨w.heap.size, 1, none⟩ (.int .i64 0)).setCell ⟨w.heap.size, 2, none⟩ (.slice none 0 0) = wf at KRF HBF ⊢
      have r0 : wf.cell? ⟨w.heap.size, 0, none⟩ = some (.int .i64 0) := KRF.at_ rfl
      have r1 : wf.cell? ⟨w.heap.size, 1, none⟩ = some (.int .i64 0) := KRF.at_ rfl
      have r2 : wf.cell? ⟨w.heap.size, 2, none⟩ = some (.slice none 0 0) := KRF.at_ rfl
      exact bodyPost_ret (v := .tuple #[.agg #[.int .i64 0, .int .i64 0, .slice none 0 0], .bool false]) (by simp [results, Try.results24, go_sem, r0, r1, r2]) rfl (EndB.no HNO.out HBF)
    by_cases h4 : L % 4 = 3
    case neg =>
      have HNO : Hid (r = none) := by rw [Hid, ← HRB.out]; exact rdB_short (Or.inr (Or.inl (by rw [HLL.out]; exact h4)))
      have hd : decide ((L : Int) < 7) = false := by rw [decide_eq_false_iff_not]; omega
      have hd4 : ((L : Int) % 4 != 3) = true := by simp only [bne_iff_ne, ne_eq]; omega
      clear h7 h4 hown3
      have r0 : w2.cell? ⟨w.heap.size, 0, none⟩ = some (.int .i64 0) := krq.at_ rfl
      have r1 : w2.cell? ⟨w.heap.size, 1, none⟩ = some (.int .i64 0) := krq.at_ rfl
      have r2 : w2.cell? ⟨w.heap.size, 2, none⟩ = some (.slice none 0 0) := krq.at_ rfl
      have f0 := krq.frozen 0
      have f1 := krq.frozen 1
      have f2 := krq.frozen 2
      go_wp2_with fail
      have KRF : Blk (((w2.setCell ⟨w.heap.size, 0, none⟩ (.int .i64 0)).setCell ⟨w.heap.size, 1, none⟩ (.int .i64 0)).setCell ⟨w.heap.size, 2, none⟩ (.slice none 0 0)) w.heap.size 26 #[.int .i64 0, .int .i64 0, .slice none 0 0] := ((krq.set_ 0 _).set_ 1 _).set_ 2 _
      have HBF := ((hbq.setCell (p := ⟨w.heap.size, 0, none⟩) (Nat.le_refl _) (.int .i64 0)).setCell (p := ⟨w.heap.size, 1, none⟩) (Nat.le_refl _) (.int .i64 0)).setCell (p := ⟨w.heap.size, 2, none⟩) (Nat.le_refl _) (.slice none 0 0)
      clear r0 r1 r2 f0 f1 f2 krq hbq
      generalize ((w2.setCell ⟨w.heap.size, 0, none⟩ (.int .i64 0)).setCell ⟨w.heap.size, 1, none⟩ (.int .i64 0)).setCell ⟨w.heap.size, 2, none⟩ (.slice none 0 0) = wf at KRF HBF ⊢
      have r0 : wf.cell? ⟨w.heap.size, 0, none⟩ = some (.int .i64 0) := KRF.at_ rfl
      have r1 : wf.cell? ⟨w.heap.size, 1, none⟩ = some (.int .i64 0) := KRF.at_ rfl
      have r2 : wf.cell? ⟨w.heap.size, 2, none⟩ = some (.slice none 0 0) := KRF.at_ rfl
      exact bodyPost_ret (v := .tuple #[.agg #[.int .i64 0, .int .i64 0, .slice none 0 0], .bool false]) (by simp [results, Try.results24, go_sem, r0, r1, r2]) rfl (EndB.no HNO.out HBF)
    have hd : decide ((L : Int) < 7) = false := by rw [decide_eq_false_iff_not]; omega
    have hd4 : ((L : Int) % 4 != 3) = false := by rw [bne_eq_false_iff_eq]; omega
    have H7 := hide h7
    have H4 := hide h4
    obtain ⟨g2, cap2, hv2, hg2, hg2l⟩ := hown3.form (by omega)
    injection hv2 with hA2 _ hcap
    subst hA2
    have hs4 := Sl.of_own hown3
    have at_ : ∀ (k : Nat) s, ls[k]? = some s → w2.cell? ⟨g2, k, none⟩ = some (.string s) := fun k s h => by
      have hk := lt_of_at h
      rw [HLL.out] at hk
      rw [hown3.cellAt k (by omega), strs, List.getElem?_map, h]; rfl
    have h7' : 7 ≤ L := by omega
    obtain ⟨x0, x1, x2, R, rfl⟩ : ∃ x0 x1 x2 R, ls = x0 :: x1 :: x2 :: R := by
      have hl := HLL.out
      match ls, hl with
      | [], h => simp at h; omega
      | [_], h => simp at h; omega
      | [_, _], h => simp at h; omega
      | a :: b :: c :: R, _ => exact ⟨a, b, c, R, rfl⟩
    have q0 : w2.cell? ⟨g2, 0, none⟩ = some (.string x0) := at_ 0 x0 rfl
    have q1 : w2.cell? ⟨g2, 1, none⟩ = some (.string x1) := at_ 1 x1 rfl
    have q2 : w2.cell? ⟨g2, 2, none⟩ = some (.string x2) := at_ 2 x2 rfl
    have AT := hide at_
    clear at_ h7 h4 hown3
    by_cases hx : x0 = batchW
    case neg =>
      have HNO : Hid (r = none) := by rw [Hid, ← HRB.out]; exact rdB_short (Or.inr (Or.inr (by simpa using hx)))
      have hxe : (x0.toList == [98, 97, 116, 99, 104]) = false := by have := toList_ne hx; rwa [batchW_list] at this
      clear hx hs4
      have r0 : w2.cell? ⟨w.heap.size, 0, none⟩ = some (.int .i64 0) := krq.at_ rfl
      have r1 : w2.cell? ⟨w.heap.size, 1, none⟩ = some (.int .i64 0) := krq.at_ rfl
      have r2 : w2.cell? ⟨w.heap.size, 2, none⟩ = some (.slice none 0 0) := krq.at_ rfl
      have f0 := krq.frozen 0
      have f1 := krq.frozen 1
      have f2 := krq.frozen 2
      go_wp2_with fail
      have KRF : Blk (((w2.setCell ⟨w.heap.size, 0, none⟩ (.int .i64 0)).setCell ⟨w.heap.size, 1, none⟩ (.int .i64 0)).setCell ⟨w.heap.size, 2, none⟩ (.slice none 0 0)) w.heap.size 26 #[.int .i64 0, .int .i64 0, .slice none 0 0] := ((krq.set_ 0 _).set_ 1 _).set_ 2 _
      have HBF := ((hbq.setCell (p := ⟨w.heap.size, 0, none⟩) (Nat.le_refl _) (.int .i64 0)).setCell (p := ⟨w.heap.size, 1, none⟩) (Nat.le_refl _) (.int .i64 0)).setCell (p := ⟨w.heap.size, 2, none⟩) (Nat.le_refl _) (.slice none 0 0)
      clear r0 r1 r2 f0 f1 f2 krq hbq
      generalize ((w2.setCell ⟨w.heap.size, 0, none⟩ (.int .i64 0)).setCell ⟨w.heap.size, 1, none⟩ (.int .i64 0)).setCell ⟨w.heap.size, 2, none⟩ (.slice none 0 0) = wf at KRF HBF ⊢
      have r0 : wf.cell? ⟨w.heap.size, 0, none⟩ = some (.int .i64 0) := KRF.at_ rfl
      have r1 : wf.cell? ⟨w.heap.size, 1, none⟩ = some (.int .i64 0) := KRF.at_ rfl
      have r2 : wf.cell? ⟨w.heap.size, 2, none⟩ = some (.slice none 0 0) := KRF.at_ rfl
      exact bodyPost_ret (v := .tuple #[.agg #[.int .i64 0, .int .i64 0, .slice none 0 0], .bool false]) (by simp [results, Try.results24, go_sem, r0, r1, r2]) rfl (EndB.no HNO.out HBF)
    subst hx
    unfold batchW at q0
    go_wp2_with fail
    obtain ⟨p1, HP1⟩ : ∃ p, Hid ((wholeN x1).isSome = p) := ⟨_, rfl⟩
    obtain ⟨p2, HP2⟩ : ∃ p, Hid ((wholeN x2).isSome = p) := ⟨_, rfl⟩
    refine (ref4_whole x1 _ (HDOM.out x1 (by simp))).mono ?_
    rw [HP1.out]
    rintro e w3 ⟨⟨z1, rfl, HZ1⟩, hb3⟩
    have q2' := cell_later hb3 q2
    have kr3 := krq.later hb3
    have hb3' := below_then hbq hb3
    have hk3 := hb3.size
    have AT3 := hide (fun k s h => cell_later hb3 (AT.out k s h))
    clear q0 q1 q2 krq hb3 hbq hs4 AT
    go_wp2_with fail
    refine (ref4_whole x2 _ (HDOM.out x2 (by simp))).mono ?_
    rw [HP2.out]
    rintro e w4 ⟨⟨z2, rfl, HZ2⟩, hb4⟩
    have kr4 := kr3.later hb4
    have hb4' := below_then hb3' hb4
    have hk4 := hb4.size
    have AT4 := hide (fun k s h => cell_later hb4 (AT3.out k s h))
    have kk := Blk.new w4 26 #[.int .i64 z1, .int .i64 z2, .slice none 0 0]
    have kr5 := kr4.alloc (.cells #[.int .i64 z1, .int .i64 z2, .slice none 0 0] 26)
    have hb5' := hb4'.alloc hb4'.size (.cells #[.int .i64 z1, .int .i64 z2, .slice none 0 0] 26)
    have AT5 := hide (fun k s h => cell_later (below_alloc w4 (.cells #[.int .i64 z1, .int .i64 z2, .slice none 0 0] 26)) (AT4.out k s h))
    clear q2' kr3 hb3' AT3 hb4 kr4 hb4' AT4
    go_upto_region 7 with fail
    generalize w4.alloc (.cells #[.int .i64 z1, .int .i64 z2, .slice none 0 0] 26) = w5 at kk kr5 hb5' AT5 ⊢
    obtain ⟨gk, hgk⟩ : ∃ gk, w4.heap.size = gk := ⟨_, rfl⟩
    rw [hgk] at kk ⊢
    go_cut [5] (fun s5 wx => s5 = .bool (p1 && p2) ∧ wx = w5)
    case first =>
      cases p1
      all_goals
        go_wp2_with fail
        go_meet
        exact ⟨rfl, rfl⟩
    case rest =>
      obtain ⟨rfl, hw⟩ := hcut
      rw [hw]
      clear hw
      have hg2k : g2 < gk := by omega
      have hgG : w.heap.size < gk := by omega
      have HI : Hid ((p1 && p2) = true → wholeN x1 = some z1 ∧ wholeN x2 = some z2) := fun h => by
        rw [Bool.and_eq_true, ← HP1.out, ← HP2.out, Option.isSome_iff_exists, Option.isSome_iff_exists] at h
        obtain ⟨⟨a, ha⟩, ⟨b, hb⟩⟩ := h
        exact ⟨by rw [ha, HZ1.out a ha], by rw [hb, HZ2.out b hb]⟩
      have HN : Hid ((p1 && p2) = false → rdB (batchW :: x1 :: x2 :: R) = none) := fun h => by
        refine rdB_bad1 ?_
        cases h1 : wholeN x1 with
        | none => exact Or.inl rfl
        | some a =>
          cases h2 : wholeN x2 with
          | none => exact Or.inr (Or.inl rfl)
          | some b => rw [← HP1.out, ← HP2.out, h1, h2] at h; simp at h
      have HRL : Hid (R.length + 3 = L) := by have := HLL.out; simpa [Hid] using this
      have HB5 := hide hb5'
      clear hb5'
      go_wp2_with fail
      go_loopw [5, 11] (fun ok i wr => PBRel w w5 gk g2 L x1 x2 R z1 z2 ok i wr) (fun _ i _ => L - (intOf i).toNat)
      case atStart => exact ⟨0, 3, _, [], _, rfl, by omega, rfl, rfl, fun h => ⟨(HI.out h).1, (HI.out h).2, by simp [rdTxs]⟩, HN.out, fun t h => by simp at h, kk, kr5, World.ownsRow_nil _ _ _ _, grown_refl _ _⟩
      case round =>
        obtain ⟨k, q, p, ys, v, HQ, hq, rfl, rfl, HT, HF, HZ, hkb, hkr, hown, hgr⟩ := hrel
        obtain ⟨wo, rfl⟩ : ∃ wo : World, wo = wr := ⟨_, rfl⟩
        clear kk kr5
        by_cases hlt : q < L
        · have hRl : 4 * k + 4 ≤ R.length := by have := HRL.out; have := HQ.out; have := H4.out; omega
          obtain ⟨a, ha⟩ : ∃ a, Hid (R[4 * k]? = some a) := ⟨_, List.getElem?_eq_getElem (by omega)⟩
          obtain ⟨b, hb⟩ : ∃ a, Hid (R[4 * k + 1]? = some a) := ⟨_, List.getElem?_eq_getElem (by omega)⟩
          obtain ⟨tk, hc'⟩ : ∃ a, Hid (R[4 * k + 2]? = some a) := ⟨_, List.getElem?_eq_getElem (by omega)⟩
          obtain ⟨tv, hd'⟩ : ∃ a, Hid (R[4 * k + 3]? = some a) := ⟨_, List.getElem?_eq_getElem (by omega)⟩
          have AR : ∀ j s, R[4 * k + j]? = some s → w5.cell? ⟨g2, q + j, none⟩ = some (.string s) := fun j s h => by
            refine AT5.out (q + j) s ?_
            rw [HQ.out, show 3 + 4 * k + j = 4 * k + j + 1 + 1 + 1 by omega]; simpa using h
          have m0 := HDOM.out a (by simp [mem_of_at ha.out])
          have m1 := HDOM.out b (by simp [mem_of_at hb.out])
          have m2 := HDOM.out tk (by simp [mem_of_at hc'.out])
          have m3 := HDOM.out tv (by simp [mem_of_at hd'.out])
          have HA0 := hide (AR 0 a ha.out)
          have HA1 := hide (AR 1 b hb.out)
          have HA2 := hide (AR 2 tk hc'.out)
          have HA3 := hide (AR 3 tv hd'.out)
          have hne : g2 ≠ gk := by omega
          have hq3 : q + 3 < L := by have := HRL.out; have := HQ.out; omega
          have c0 : wo.cell? ⟨g2, q, none⟩ = some (.string a) := cell_grown hgr HA0.out hne
          clear AR
          go_wp2_with fail
          refine (ref4_whole a _ m0).mono ?_
          obtain ⟨pa, HPA⟩ : ∃ p, Hid ((wholeN a).isSome = p) := ⟨_, rfl⟩
          rw [HPA.out]
          rintro e w6 ⟨⟨z3, rfl, HZ3⟩, hb6⟩
          have gr6 := grown_trans hgr (grown_of_below hb6 (some gk))
          have kb6 := hkb.later hb6
          have kr6 := hkr.later hb6
          have own6 := own_later hown hb6
          have c1 : w6.cell? ⟨g2, q + 1, none⟩ = some (.string b) := cell_grown gr6 HA1.out hne
          clear hgr hkb hkr hown hb6 c0
          go_wp2_with fail
          refine (ref4_whole b _ m1).mono ?_
          obtain ⟨pb, HPB⟩ : ∃ p, Hid ((wholeN b).isSome = p) := ⟨_, rfl⟩
          rw [HPB.out]
          rintro e w7 ⟨⟨z4, rfl, HZ4⟩, hb7⟩
          have gr7 := grown_trans gr6 (grown_of_below hb7 (some gk))
          have kb7 := kb6.later hb7
          have kr7 := kr6.later hb7
          have own7 := own_later own6 hb7
          clear gr6 kb6 kr6 own6 hb7 c1
          go_upto_region 13 with fail
          go_cut [5] (fun s5 wx => s5 = .bool (p && pa && pb) ∧ wx = w7)
          case first =>
            cases p
            case true =>
              cases pa
              all_goals
                go_wp2_with fail
                go_meet
                exact ⟨rfl, rfl⟩
            case false =>
              go_wp2_with fail
              go_meet
              exact ⟨rfl, rfl⟩
          case rest =>
            obtain ⟨rfl, hw⟩ := hcut
            rw [hw]
            clear hw
            have HT2 : Hid ((p && pa && pb) = true → wholeN x1 = some z1 ∧ wholeN x2 = some z2 ∧ rdTxs (R.take (4 * (k + 1))) = some (ys ++ [⟨z3, z4, tk, tv⟩])) := fun h => by
              rw [Bool.and_eq_true, Bool.and_eq_true, ← HPA.out, ← HPB.out, Option.isSome_iff_exists, Option.isSome_iff_exists] at h
              obtain ⟨⟨hp, ⟨y1, hy1⟩⟩, ⟨y2, hy2⟩⟩ := h
              obtain ⟨e1, e2, e3⟩ := HT.out hp
              refine ⟨e1, e2, ?_⟩
              rw [show 4 * (k + 1) = 4 * k + 1 + 1 + 1 + 1 by omega, take_at hd'.out, take_at hc'.out, take_at hb.out, take_at ha.out]
              simp only [List.append_assoc, List.cons_append, List.nil_append]
              exact rdTxs_snoc _ _ _ _ _ _ _ _ e3 (by rw [hy1, HZ3.out y1 hy1]) (by rw [hy2, HZ4.out y2 hy2])
            have HF2 : Hid ((p && pa && pb) = false → rdB (batchW :: x1 :: x2 :: R) = none) := fun h => by
              cases hp : p with
              | false => exact HF.out hp
              | true =>
                refine rdB_bad1 (Or.inr (Or.inr ?_))
                cases hR : rdTxs R with
                | none => rfl
                | some l =>
                  have g1 := rdTxs_num R l hR k a (Or.inl ha.out)
                  have g2 := rdTxs_num R l hR k b (Or.inr hb.out)
                  rw [hp, ← HPA.out, ← HPB.out] at h
                  cases h1 : wholeN a with
                  | none => exact absurd h1 g1
                  | some y1 =>
                    cases h2 : wholeN b with
                    | none => exact absurd h2 g2
                    | some y2 => rw [h1, h2] at h; simp at h
            have HZZ2 : Hid (TxZ (ys ++ [⟨z3, z4, tk, tv⟩])) := fun t ht => by
              rw [List.mem_append] at ht
              rcases ht with ht | ht
              · exact HZ.out t ht
              · simp at ht; subst ht; exact ⟨m2, m3⟩
            obtain ⟨Av, cv, rfl⟩ := own_slice own7
            have c2 : w7.cell? ⟨g2, q + 2, none⟩ = some (.string tk) := cell_grown gr7 HA2.out hne
            have c3 : w7.cell? ⟨g2, q + 3, none⟩ = some (.string tv) := cell_grown gr7 HA3.out hne
            have b2 : w7.cell? ⟨gk, 2, none⟩ = some (.slice Av k cv) := kb7.at_ rfl
            have f2 := kb7.frozen 2
            have b2a : (w7.alloc (.cells #[.int .i64 z3, .int .i64 z4, .string tk, .string tv] 67)).cell? ⟨gk, 2, none⟩ = some (.slice Av k cv) := (kb7.alloc _).at_ rfl
            go_upto_region 14 with fail
            have hkL : k ≤ 1048576 := by have := HQ.out; omega
            have hz7 := gr7.size
            have hi0 : (0 : Int) ≤ (q : Int) + 2 := by omega
            have hi1 : (q : Int) + 2 < (L : Int) := by omega
            have hi2 : (0 : Int) ≤ (q : Int) + 3 := by omega
            have hi3 : (q : Int) + 3 < (L : Int) := by omega
            have hw2 : IntKind.i64.wrap ((q : Int) + 2) = (q : Int) + 2 := IntWalk.i64_in _ (by omega)
            have hw3 : IntKind.i64.wrap ((q : Int) + 3) = (q : Int) + 3 := IntWalk.i64_in _ (by omega)
            have ht2 : ((q : Int) + 2).toNat = q + 2 := by omega
            have ht3 : ((q : Int) + 3).toNat = q + 3 := by omega
            go_region_law (first
              | (refine step_append_any _ (by rfl) (.tmp 93) (.tmp 107) _ (by rfl) w5.heap.size 67 j0 _ 4 48 Try.underlying24 hj hj0 hj1 hj2 (by rfl) (by decide) (.slice Av k cv) k (txsC ys) (by rfl) (own7.drew.alloc _) (some ⟨w7.heap.size, 0, none⟩) 1 1 (txsC [⟨z3, z4, tk, tv⟩]) (by rfl) (Sl.of_blk (size := 4) (n := 1) (Blk.new w7.drew 67 #[.int .i64 z3, .int .i64 z4, .string tk, .string tv]) rfl) (txsC_one _) (by clear hw2 hw3; unfold maxLen; omega) (by clear hw2 hw3; omega) (by clear hw2 hw3; simp; omega) ?_; intro v8 w8 hown8 hg8; obtain ⟨A8, c8, rfl⟩ := own_slice hown8; have kb8 := (kb7.drew.alloc _).grown hg8 (Ne.symm (own_blk_ne own7 kb7 (by decide))); have f8 := kb8.frozen 2; have b28 : w8.cell? ⟨gk, 2, none⟩ = some (.slice Av k cv) := kb8.at_ rfl)
              | fail)
            clear hw2 hw3 ht2 ht3 hi0 hi1 hi2 hi3 c2 c3 b2 f2 b2a
            all_goals
              have own9 : w8.ownsRow w5.heap.size 67 4 (.slice A8 (k + 1) c8) (k + 1) (txsC (ys ++ [⟨z3, z4, tk, tv⟩])) := by rw [txsC_append]; exact hown8
              have OWN := hide (own9.kept (grown_set w8 gk 2 (.slice A8 (k + 1) c8)) (Or.inr (own_blk_ne own9 kb8 (by decide))))
              have KB := hide (kb8.set_ 2 (.slice A8 (k + 1) c8))
              have kr8 := ((kr7.drew.alloc _).grown hg8 (Ne.symm (own_blk_ne own7 kr7 (by decide))))
              have KR := hide (kr8.far (p := ⟨gk, 2, none⟩) (Nat.ne_of_lt hgG) (.slice A8 (k + 1) c8))
              have GR := hide (grown_trans (grown_row (grown_alloc (grown_drew gr7) _) hg8 (fun g h => (own7.lt g h).1)) (grown_set w8 gk 2 (.slice A8 (k + 1) c8)))
              clear own9 kr8 hown8 hg8 kb8 f8 b28
              go_wp2_with fail
              go_roundw
              case rel =>
                exact ⟨k + 1, q + 4, _, ys ++ [⟨z3, z4, tk, tv⟩], _, by have := HQ.out; rw [Hid]; omega, by omega, by go_num, rfl, HT2, HF2, HZZ2, KB.out, KR.out, OWN.out, GR.out⟩
              case measure => simp [intOf]; omega
        · have hqL : q = L := by omega
          have HR4 : Hid (R.length = 4 * k) := by have := HRL.out; have := HQ.out; rw [Hid]; omega
          have hqd : decide (q < L) = false := by rw [decide_eq_false_iff_not]; omega
          have hsz5 := HB5.out.size
          have hbq := below_of_grown HB5.out hgr hsz5 (Nat.le_of_lt hgG)
          have krq := hkr
          clear hlt hqL
          cases p with
          | false =>
            have HNO : Hid (r = none) := by rw [Hid, ← HRB.out]; exact HF.out rfl
            clear hkr hkb hown hgr
            have r0 : wo.cell? ⟨w.heap.size, 0, none⟩ = some (.int .i64 0) := krq.at_ rfl
            have r1 : wo.cell? ⟨w.heap.size, 1, none⟩ = some (.int .i64 0) := krq.at_ rfl
            have r2 : wo.cell? ⟨w.heap.size, 2, none⟩ = some (.slice none 0 0) := krq.at_ rfl
            have f0 := krq.frozen 0
            have f1 := krq.frozen 1
            have f2 := krq.frozen 2
            go_wp2_with fail
            have KRF : Blk (((wo.setCell ⟨w.heap.size, 0, none⟩ (.int .i64 0)).setCell ⟨w.heap.size, 1, none⟩ (.int .i64 0)).setCell ⟨w.heap.size, 2, none⟩ (.slice none 0 0)) w.heap.size 26 #[.int .i64 0, .int .i64 0, .slice none 0 0] := ((krq.set_ 0 _).set_ 1 _).set_ 2 _
            have HBF := ((hbq.setCell (p := ⟨w.heap.size, 0, none⟩) (Nat.le_refl _) (.int .i64 0)).setCell (p := ⟨w.heap.size, 1, none⟩) (Nat.le_refl _) (.int .i64 0)).setCell (p := ⟨w.heap.size, 2, none⟩) (Nat.le_refl _) (.slice none 0 0)
            clear r0 r1 r2 f0 f1 f2 krq hbq
            generalize ((wo.setCell ⟨w.heap.size, 0, none⟩ (.int .i64 0)).setCell ⟨w.heap.size, 1, none⟩ (.int .i64 0)).setCell ⟨w.heap.size, 2, none⟩ (.slice none 0 0) = wf at KRF HBF ⊢
            have r0 : wf.cell? ⟨w.heap.size, 0, none⟩ = some (.int .i64 0) := KRF.at_ rfl
            have r1 : wf.cell? ⟨w.heap.size, 1, none⟩ = some (.int .i64 0) := KRF.at_ rfl
            have r2 : wf.cell? ⟨w.heap.size, 2, none⟩ = some (.slice none 0 0) := KRF.at_ rfl
            exact bodyPost_ret (v := .tuple #[.agg #[.int .i64 0, .int .i64 0, .slice none 0 0], .bool false]) (by simp [results, Try.results24, go_sem, r0, r1, r2]) rfl (EndB.no HNO.out HBF)
          | true =>
            obtain ⟨e1, e2, e3⟩ := HT.out rfl
            rw [List.take_of_length_le (by rw [HR4.out]; exact Nat.le_refl _)] at e3
            have HRD : Hid (rdB (batchW :: x1 :: x2 :: R) = if mayB z1 z2 ys = true then some (z1, z2, ys) else none) := rdB_good e1 e2 e3
            obtain ⟨Av, cv, rfl⟩ := own_slice hown
            have k0 : wo.cell? ⟨gk, 0, none⟩ = some (.int .i64 z1) := hkb.at_ rfl
            have k1 : wo.cell? ⟨gk, 1, none⟩ = some (.int .i64 z2) := hkb.at_ rfl
            have k2 : wo.cell? ⟨gk, 2, none⟩ = some (.slice Av k cv) := hkb.at_ rfl
            have HKL : Hid (ys.length = k) := (Sl.of_own hown).txlen
            have hkL : k ≤ 1048576 := by have := HQ.out; omega
            clear hkr hgr e1 e2 e3
            cases hm : mayB z1 z2 ys with
            | false =>
              have HM := hide hm
              have HNO : Hid (r = none) := by rw [Hid, ← HRB.out, HRD.out, hm]; rfl
              clear hm
              go_wp2_with fail
              refine (ref4_Batch z1 z2 _ (Sl.of_own hown) (by omega) HZ.out HM).mono ?_
              rintro e w9 ⟨rfl, hb9⟩
              have krq9 := krq.later hb9
              have hbq9 := below_then hbq hb9
              clear krq hbq k0 k1 k2 hkb hown hb9
              have krq := krq9
              have hbq := hbq9
              clear krq9 hbq9
              have r0 : w9.cell? ⟨w.heap.size, 0, none⟩ = some (.int .i64 0) := krq.at_ rfl
              have r1 : w9.cell? ⟨w.heap.size, 1, none⟩ = some (.int .i64 0) := krq.at_ rfl
              have r2 : w9.cell? ⟨w.heap.size, 2, none⟩ = some (.slice none 0 0) := krq.at_ rfl
              have f0 := krq.frozen 0
              have f1 := krq.frozen 1
              have f2 := krq.frozen 2
              go_wp2_with fail
              have KRF : Blk (((w9.setCell ⟨w.heap.size, 0, none⟩ (.int .i64 0)).setCell ⟨w.heap.size, 1, none⟩ (.int .i64 0)).setCell ⟨w.heap.size, 2, none⟩ (.slice none 0 0)) w.heap.size 26 #[.int .i64 0, .int .i64 0, .slice none 0 0] := ((krq.set_ 0 _).set_ 1 _).set_ 2 _
              have HBF := ((hbq.setCell (p := ⟨w.heap.size, 0, none⟩) (Nat.le_refl _) (.int .i64 0)).setCell (p := ⟨w.heap.size, 1, none⟩) (Nat.le_refl _) (.int .i64 0)).setCell (p := ⟨w.heap.size, 2, none⟩) (Nat.le_refl _) (.slice none 0 0)
              clear r0 r1 r2 f0 f1 f2 krq hbq
              generalize ((w9.setCell ⟨w.heap.size, 0, none⟩ (.int .i64 0)).setCell ⟨w.heap.size, 1, none⟩ (.int .i64 0)).setCell ⟨w.heap.size, 2, none⟩ (.slice none 0 0) = wf at KRF HBF ⊢
              have r0 : wf.cell? ⟨w.heap.size, 0, none⟩ = some (.int .i64 0) := KRF.at_ rfl
              have r1 : wf.cell? ⟨w.heap.size, 1, none⟩ = some (.int .i64 0) := KRF.at_ rfl
              have r2 : wf.cell? ⟨w.heap.size, 2, none⟩ = some (.slice none 0 0) := KRF.at_ rfl
              exact bodyPost_ret (v := .tuple #[.agg #[.int .i64 0, .int .i64 0, .slice none 0 0], .bool false]) (by simp [results, Try.results24, go_sem, r0, r1, r2]) rfl (EndB.no HNO.out HBF)
            | true =>
              have HM := hide hm
              have HYES : Hid (r = some (z1, z2, ys)) := by rw [Hid, ← HRB.out, HRD.out, hm]; rfl
              clear hm
              go_wp2_with fail
              refine (ref4_Batch z1 z2 _ (Sl.of_own hown) (by omega) HZ.out HM).mono ?_
              rintro e w9 ⟨rfl, hb9⟩
              have kr9 := krq.later hb9
              have kb9 := hkb.later hb9
              have own9 := own_later hown hb9
              have hb9' := below_then hbq hb9
              have k0 : w9.cell? ⟨gk, 0, none⟩ = some (.int .i64 z1) := kb9.at_ rfl
              have k1 : w9.cell? ⟨gk, 1, none⟩ = some (.int .i64 z2) := kb9.at_ rfl
              have k2 : w9.cell? ⟨gk, 2, none⟩ = some (.slice Av k cv) := kb9.at_ rfl
              have r0 : w9.cell? ⟨w.heap.size, 0, none⟩ = some (.int .i64 0) := kr9.at_ rfl
              have r1 : w9.cell? ⟨w.heap.size, 1, none⟩ = some (.int .i64 0) := kr9.at_ rfl
              have r2 : w9.cell? ⟨w.heap.size, 2, none⟩ = some (.slice none 0 0) := kr9.at_ rfl
              have f0 := kr9.frozen 0
              have f1 := kr9.frozen 1
              have f2 := kr9.frozen 2
              clear krq hkb hown hbq hb9
              go_wp2_with fail
              have hne := own_blk_ne own9 kr9 (by decide)
              have KRF : Blk (((w9.setCell ⟨w.heap.size, 0, none⟩ (.int .i64 z1)).setCell ⟨w.heap.size, 1, none⟩ (.int .i64 z2)).setCell ⟨w.heap.size, 2, none⟩ (.slice Av k cv)) w.heap.size 26 #[.int .i64 z1, .int .i64 z2, .slice Av k cv] := ((kr9.set_ 0 _).set_ 1 _).set_ 2 _
              have OWF := ((own9.kept (grown_set w9 w.heap.size 0 (.int .i64 z1)) (Or.inr hne)).kept (grown_set _ w.heap.size 1 (.int .i64 z2)) (Or.inr hne)).kept (grown_set _ w.heap.size 2 (.slice Av k cv)) (Or.inr hne)
              have HBF := ((hb9'.setCell (p := ⟨w.heap.size, 0, none⟩) (Nat.le_refl _) (.int .i64 z1)).setCell (p := ⟨w.heap.size, 1, none⟩) (Nat.le_refl _) (.int .i64 z2)).setCell (p := ⟨w.heap.size, 2, none⟩) (Nat.le_refl _) (.slice Av k cv)
              clear own9 kr9 kb9 hb9' r0 r1 r2 f0 f1 f2 k0 k1 k2 hne
              generalize ((w9.setCell ⟨w.heap.size, 0, none⟩ (.int .i64 z1)).setCell ⟨w.heap.size, 1, none⟩ (.int .i64 z2)).setCell ⟨w.heap.size, 2, none⟩ (.slice Av k cv) = wf at KRF OWF HBF ⊢
              have r0 : wf.cell? ⟨w.heap.size, 0, none⟩ = some (.int .i64 z1) := KRF.at_ rfl
              have r1 : wf.cell? ⟨w.heap.size, 1, none⟩ = some (.int .i64 z2) := KRF.at_ rfl
              have r2 : wf.cell? ⟨w.heap.size, 2, none⟩ = some (.slice Av k cv) := KRF.at_ rfl
              exact bodyPost_ret (v := .tuple #[.agg #[.int .i64 z1, .int .i64 z2, .slice Av k cv], .bool true]) (by simp [results, Try.results24, go_sem, r0, r1, r2]) rfl (EndB.yes HYES.out HKL.out (own_mono OWF hsz5) HBF)
end Go.Proofs.Ytihpmaifcebpiaa
