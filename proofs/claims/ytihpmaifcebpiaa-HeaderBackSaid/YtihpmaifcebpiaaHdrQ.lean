/-
  Contract: the header that bytes are: the reference's.
-/
import Derived.Test.YtihpmaifcebpiaaHdrP
import Derived.Test.YtihpmaifcebpiaaHdrR
import Derived.Test.YtihpmaifcebpiaaRefG
import Derived.Deep.DeepCutAuto
namespace Go.Proofs.Ytihpmaifcebpiaa
open Go.RowKit

/-- What is told of numbers that the reference read. -/
def EndM (t : TypeId) (o : Option (List Int)) (b : Bool) (v : Value) (w w' : World) : Prop :=
  match o with
  | some l => b = true ∧ w'.ownsRow w.heap.size t 1 v l.length (ints l)
  | none => b = false
theorem ref2_GetNums_any {A : Option Addr} {n c : Nat} {bs : List UInt8} (w : World) (hs : Sl w 1 A n (bytes8 bs)) (hnc : n ≤ c) (hc : c ≤ 9223372036854775807) {o : Option (List Int)} (ho : Hid (getI bs = o)) :
    Calls Try.prog 66 #[.slice A n c] w fun e w' => (∃ A' n' c' b, e = .returned (.tuple #[.slice A' n' c', .bool b]) ∧ EndM 3 o b (.slice A' n' c') w w') ∧ Below w.heap.size w w' := by
  refine (ref2_GetNums w hs hnc hc).mono ?_
  intro e w' h
  rw [ho.out] at h
  cases o with
  | none =>
    obtain ⟨A', n', c', rfl, hb⟩ := EndL.none2_ h
    exact ⟨⟨A', n', c', false, rfl, rfl⟩, hb⟩
  | some l =>
    obtain ⟨v, rfl, h1, hb⟩ := EndL.some_ h
    obtain ⟨A', c', rfl⟩ := own_slice h1
    exact ⟨⟨A', _, c', true, rfl, rfl, h1⟩, hb⟩
theorem wholes_two {x y : ByteArray} {a b : Int} (h1 : wholeN x = some a) (h2 : wholeN y = some b) : wholes [x, y] = some [a, b] := by
  rw [wholes, wholes, wholes, h1, h2]
theorem wholes_not {x y : ByteArray} (h : wholeN x = none ∨ wholeN y = none) : wholes [x, y] = none := by
  rw [wholes, wholes, wholes]
  rcases h with h | h
  · rw [h]
  · rw [h]; cases wholeN x <;> rfl
set_option maxRecDepth 100000 in
set_option maxHeartbeats 2500000 in
theorem ref4_ParseHeader {A : Option Addr} {n c : Nat} {bs : List UInt8} (w : World) (hs : Sl w 1 A n (bytes8 bs)) (hnc : n ≤ c) (hc : c ≤ 9223372036854775807) {r : Option HdD} (hr : Hid (parseH bs = r)) :
    Calls Try.prog 34 #[.slice A n c] w (EndH (.bool true) (.bool false) 3 r w) := by
  have kr := Blk.new w 49 #[.int .i64 0, .int .i64 0, .slice none 0 0, .slice none 0 0]
  have hb0 := below_alloc' w (.cells #[.int .i64 0, .int .i64 0, .slice none 0 0, .slice none 0 0] 49)
  have hs1 := hs.alloc (.cells #[.int .i64 0, .int .i64 0, .slice none 0 0, .slice none 0 0] 49)
  have hk0 : w.heap.size < (w.alloc (.cells #[.int .i64 0, .int .i64 0, .slice none 0 0, .slice none 0 0] 49)).heap.size := kr.lt
  clear hs
  cases hgt : getT bs with
  | none =>
    have HNO : Hid (r = none) := by rw [Hid, ← hr.out]; unfold parseH; rw [hgt]
    have HG := hide hgt
    clear hgt hr
    go_enter Try.func34, Try.ntmps34
    go_wp2_with fail
    refine (ref2_Get _ hs1 hnc hc).mono ?_
    intro e w2 he
    rw [HG.out] at he
    obtain ⟨v, rfl, hb2⟩ := EndL.none_ he
    have krq := kr.later hb2
    have hbq := hb0.trans (hb2.mono (Nat.le_of_lt hk0))
    clear he hb2 kr hb0 hs1 hk0
    have r0 : w2.cell? ⟨w.heap.size, 0, none⟩ = some (.int .i64 0) := krq.at_ rfl
    have r1 : w2.cell? ⟨w.heap.size, 1, none⟩ = some (.int .i64 0) := krq.at_ rfl
    have r2 : w2.cell? ⟨w.heap.size, 2, none⟩ = some (.slice none 0 0) := krq.at_ rfl
    have r3 : w2.cell? ⟨w.heap.size, 3, none⟩ = some (.slice none 0 0) := krq.at_ rfl
    have f0 := krq.frozen 0
    have f1 := krq.frozen 1
    have f2 := krq.frozen 2
    have f3 := krq.frozen 3
    go_wp2_with fail
    have KRF : Blk ((((w2.setCell ⟨w.heap.size, 0, none⟩ (.int .i64 0)).setCell ⟨w.heap.size, 1, none⟩ (.int .i64 0)).setCell ⟨w.heap.size, 2, none⟩ (.slice none 0 0)).setCell ⟨w.heap.size, 3, none⟩ (.slice none 0 0)) w.heap.size 49 #[.int .i64 0, .int .i64 0, .slice none 0 0, .slice none 0 0] := (((krq.set_ 0 _).set_ 1 _).set_ 2 _).set_ 3 _
    have HBF := (((hbq.setCell (p := ⟨w.heap.size, 0, none⟩) (Nat.le_refl _) (.int .i64 0)).setCell (p := ⟨w.heap.size, 1, none⟩) (Nat.le_refl _) (.int .i64 0)).setCell (p := ⟨w.heap.size, 2, none⟩) (Nat.le_refl _) (.slice none 0 0)).setCell (p := ⟨w.heap.size, 3, none⟩) (Nat.le_refl _) (.slice none 0 0)
    clear r0 r1 r2 r3 f0 f1 f2 f3 krq hbq
    generalize (((w2.setCell ⟨w.heap.size, 0, none⟩ (.int .i64 0)).setCell ⟨w.heap.size, 1, none⟩ (.int .i64 0)).setCell ⟨w.heap.size, 2, none⟩ (.slice none 0 0)).setCell ⟨w.heap.size, 3, none⟩ (.slice none 0 0) = wf at KRF HBF ⊢
    have r0 : wf.cell? ⟨w.heap.size, 0, none⟩ = some (.int .i64 0) := KRF.at_ rfl
    have r1 : wf.cell? ⟨w.heap.size, 1, none⟩ = some (.int .i64 0) := KRF.at_ rfl
    have r2 : wf.cell? ⟨w.heap.size, 2, none⟩ = some (.slice none 0 0) := KRF.at_ rfl
    have r3 : wf.cell? ⟨w.heap.size, 3, none⟩ = some (.slice none 0 0) := KRF.at_ rfl
    exact bodyPost_ret (v := .tuple #[.agg #[.int .i64 0, .int .i64 0, .slice none 0 0, .slice none 0 0], .bool false]) (by simp [results, Try.results34, go_sem, r0, r1, r2, r3]) rfl (EndH.no HNO.out HBF)
  | some ls =>
    obtain ⟨hbs, hbl, hdom⟩ := getL_back codecT hgt
    have hcount := put_count (e := encT) codecT.pos ls
    rw [← hbs] at hcount
    have HRD : Hid (rdH ls = r) := by rw [Hid, ← hr.out]; unfold parseH; rw [hgt]
    obtain ⟨L, HLL⟩ : ∃ L, Hid (ls.length = L) := ⟨_, rfl⟩
    have hLX : L ≤ 1048576 := by have := HLL.out; omega
    have HDOM := hide hdom
    have HG := hide hgt
    clear hgt hbs hbl hdom hcount hr
    go_enter Try.func34, Try.ntmps34
    go_wp2_with fail
    refine (ref2_Get _ hs1 hnc hc).mono ?_
    intro e w2 he
    rw [HG.out] at he
    obtain ⟨v, rfl, hown2, hb2⟩ := EndL.some_ he
    rw [HLL.out] at hown2
    have krq := kr.later hb2
    have hbq := hb0.trans (hb2.mono (Nat.le_of_lt hk0))
    have hk2 := hb2.size
    have hown3 : w2.ownsRow (w.heap.size + 1) 9 1 v L (strs ls) := own_mono hown2 (by simp)
    simp at hk2
    obtain ⟨A2, c2, rfl⟩ := own_slice hown3
    clear he hb2 kr hb0 hs1 hk0 hown2
    by_cases h5 : L = 5
    case neg =>
      have HNO : Hid (r = none) := by rw [Hid, ← HRD.out]; exact rdH_len (by rw [HLL.out]; exact h5)
      have hd5 : ((L : Int) != 5) = true := by simp only [bne_iff_ne, ne_eq]; omega
      clear h5 hown3
      have r0 : w2.cell? ⟨w.heap.size, 0, none⟩ = some (.int .i64 0) := krq.at_ rfl
      have r1 : w2.cell? ⟨w.heap.size, 1, none⟩ = some (.int .i64 0) := krq.at_ rfl
      have r2 : w2.cell? ⟨w.heap.size, 2, none⟩ = some (.slice none 0 0) := krq.at_ rfl
      have r3 : w2.cell? ⟨w.heap.size, 3, none⟩ = some (.slice none 0 0) := krq.at_ rfl
      have f0 := krq.frozen 0
      have f1 := krq.frozen 1
      have f2 := krq.frozen 2
      have f3 := krq.frozen 3
      go_wp2_with fail
      have KRF : Blk ((((w2.setCell ⟨w.heap.size, 0, none⟩ (.int .i64 0)).setCell ⟨w.heap.size, 1, none⟩ (.int .i64 0)).setCell ⟨w.heap.size, 2, none⟩ (.slice none 0 0)).setCell ⟨w.heap.size, 3, none⟩ (.slice none 0 0)) w.heap.size 49 #[.int .i64 0, .int .i64 0, .slice none 0 0, .slice none 0 0] := (((krq.set_ 0 _).set_ 1 _).set_ 2 _).set_ 3 _
      have HBF := (((hbq.setCell (p := ⟨w.heap.size, 0, none⟩) (Nat.le_refl _) (.int .i64 0)).setCell (p := ⟨w.heap.size, 1, none⟩) (Nat.le_refl _) (.int .i64 0)).setCell (p := ⟨w.heap.size, 2, none⟩) (Nat.le_refl _) (.slice none 0 0)).setCell (p := ⟨w.heap.size, 3, none⟩) (Nat.le_refl _) (.slice none 0 0)
      clear r0 r1 r2 r3 f0 f1 f2 f3 krq hbq
      generalize (((w2.setCell ⟨w.heap.size, 0, none⟩ (.int .i64 0)).setCell ⟨w.heap.size, 1, none⟩ (.int .i64 0)).setCell ⟨w.heap.size, 2, none⟩ (.slice none 0 0)).setCell ⟨w.heap.size, 3, none⟩ (.slice none 0 0) = wf at KRF HBF ⊢
      have r0 : wf.cell? ⟨w.heap.size, 0, none⟩ = some (.int .i64 0) := KRF.at_ rfl
      have r1 : wf.cell? ⟨w.heap.size, 1, none⟩ = some (.int .i64 0) := KRF.at_ rfl
      have r2 : wf.cell? ⟨w.heap.size, 2, none⟩ = some (.slice none 0 0) := KRF.at_ rfl
      have r3 : wf.cell? ⟨w.heap.size, 3, none⟩ = some (.slice none 0 0) := KRF.at_ rfl
      exact bodyPost_ret (v := .tuple #[.agg #[.int .i64 0, .int .i64 0, .slice none 0 0, .slice none 0 0], .bool false]) (by simp [results, Try.results34, go_sem, r0, r1, r2, r3]) rfl (EndH.no HNO.out HBF)
    subst h5
    obtain ⟨g2, cap2, hv2, hg2, hg2l⟩ := hown3.form (by omega)
    injection hv2 with hA2 _ hcap
    subst hA2
    have at_ : ∀ (k : Nat) s, ls[k]? = some s → w2.cell? ⟨g2, k, none⟩ = some (.string s) := fun k s h => by
      have hk := lt_of_at h
      rw [HLL.out] at hk
      rw [hown3.cellAt k (by omega), strs, List.getElem?_map, h]; rfl
    obtain ⟨x0, x1, x2, x3, x4, rfl⟩ : ∃ x0 x1 x2 x3 x4, ls = [x0, x1, x2, x3, x4] := by
      have hl := HLL.out
      match ls, hl with
      | [a, b, c, d, e], _ => exact ⟨a, b, c, d, e, rfl⟩
    have q0 : w2.cell? ⟨g2, 0, none⟩ = some (.string x0) := at_ 0 x0 rfl
    have q1 : w2.cell? ⟨g2, 1, none⟩ = some (.string x1) := at_ 1 x1 rfl
    have HQ2 := hide (at_ 2 x2 rfl)
    have HQ3 := hide (at_ 3 x3 rfl)
    have HQ4 := hide (at_ 4 x4 rfl)
    clear at_ hown3
    by_cases hx : x0 = headerW
    case neg =>
      have HNO : Hid (r = none) := by rw [Hid, ← HRD.out]; exact rdH_word hx
      have hxe : (x0.toList == [104, 101, 97, 100, 101, 114]) = false := by have := toList_ne hx; rwa [headerW_list] at this
      clear hx
      have r0 : w2.cell? ⟨w.heap.size, 0, none⟩ = some (.int .i64 0) := krq.at_ rfl
      have r1 : w2.cell? ⟨w.heap.size, 1, none⟩ = some (.int .i64 0) := krq.at_ rfl
      have r2 : w2.cell? ⟨w.heap.size, 2, none⟩ = some (.slice none 0 0) := krq.at_ rfl
      have r3 : w2.cell? ⟨w.heap.size, 3, none⟩ = some (.slice none 0 0) := krq.at_ rfl
      have f0 := krq.frozen 0
      have f1 := krq.frozen 1
      have f2 := krq.frozen 2
      have f3 := krq.frozen 3
      go_wp2_with fail
      have KRF : Blk ((((w2.setCell ⟨w.heap.size, 0, none⟩ (.int .i64 0)).setCell ⟨w.heap.size, 1, none⟩ (.int .i64 0)).setCell ⟨w.heap.size, 2, none⟩ (.slice none 0 0)).setCell ⟨w.heap.size, 3, none⟩ (.slice none 0 0)) w.heap.size 49 #[.int .i64 0, .int .i64 0, .slice none 0 0, .slice none 0 0] := (((krq.set_ 0 _).set_ 1 _).set_ 2 _).set_ 3 _
      have HBF := (((hbq.setCell (p := ⟨w.heap.size, 0, none⟩) (Nat.le_refl _) (.int .i64 0)).setCell (p := ⟨w.heap.size, 1, none⟩) (Nat.le_refl _) (.int .i64 0)).setCell (p := ⟨w.heap.size, 2, none⟩) (Nat.le_refl _) (.slice none 0 0)).setCell (p := ⟨w.heap.size, 3, none⟩) (Nat.le_refl _) (.slice none 0 0)
      clear r0 r1 r2 r3 f0 f1 f2 f3 krq hbq
      generalize (((w2.setCell ⟨w.heap.size, 0, none⟩ (.int .i64 0)).setCell ⟨w.heap.size, 1, none⟩ (.int .i64 0)).setCell ⟨w.heap.size, 2, none⟩ (.slice none 0 0)).setCell ⟨w.heap.size, 3, none⟩ (.slice none 0 0) = wf at KRF HBF ⊢
      have r0 : wf.cell? ⟨w.heap.size, 0, none⟩ = some (.int .i64 0) := KRF.at_ rfl
      have r1 : wf.cell? ⟨w.heap.size, 1, none⟩ = some (.int .i64 0) := KRF.at_ rfl
      have r2 : wf.cell? ⟨w.heap.size, 2, none⟩ = some (.slice none 0 0) := KRF.at_ rfl
      have r3 : wf.cell? ⟨w.heap.size, 3, none⟩ = some (.slice none 0 0) := KRF.at_ rfl
      exact bodyPost_ret (v := .tuple #[.agg #[.int .i64 0, .int .i64 0, .slice none 0 0, .slice none 0 0], .bool false]) (by simp [results, Try.results34, go_sem, r0, r1, r2, r3]) rfl (EndH.no HNO.out HBF)
    subst hx
    unfold headerW at q0
    have hbd := Below.refl w2.heap.size w2
    obtain ⟨p1, HP1⟩ : ∃ p, Hid ((wholeN x1).isSome = p) := ⟨_, rfl⟩
    obtain ⟨p2, HP2⟩ : ∃ p, Hid ((wholeN x2).isSome = p) := ⟨_, rfl⟩
    obtain ⟨o3, HO3⟩ : ∃ o, Hid (getI x3.data.toList = o) := ⟨_, rfl⟩
    obtain ⟨o4, HO4⟩ : ∃ o, Hid (getI x4.data.toList = o) := ⟨_, rfl⟩
    go_wp2_with fail
    refine (ref4_whole x1 _ (HDOM.out x1 (by simp))).mono ?_
    rw [HP1.out]
    rintro e w3 ⟨⟨z1, rfl, HZ1⟩, hb3⟩
    have hbd3 := below_then hbd hb3
    have q2 := cell_later hbd3 HQ2.out
    clear q0 q1 hbd hb3
    go_wp2_with fail
    refine (ref4_whole x2 _ (HDOM.out x2 (by simp))).mono ?_
    rw [HP2.out]
    rintro e w4 ⟨⟨z2, rfl, HZ2⟩, hb4⟩
    have hbd4 := below_then hbd3 hb4
    have q3 := cell_later hbd4 HQ3.out
    clear q2 hbd3 hb4
    obtain ⟨cap3, w5, HCV, s5, hb5, hc5, hc5m⟩ := conv_bytes2 (P := Try.prog) w4 9 27 5 x3 Try.underlying9 Try.underlying27 Try.underlying5 (HDOM.out x3 (by simp))
    go_wp2_with fail
    refine (ref2_GetNums_any _ s5 hc5 hc5m HO3).mono ?_
    rintro e w6 ⟨⟨A6, n6, c6, b6, rfl, HE6⟩, hb6⟩
    have hbd6 := below_then (below_then hbd4 hb5) hb6
    have hz5 := (below_then hbd4 hb5).size
    have q4 := cell_later hbd6 HQ4.out
    clear q3 hbd4 hb5 HCV s5
    obtain ⟨cap4, w7, HCV, s7, hb7, hc7, hc7m⟩ := conv_bytes2 (P := Try.prog) w6 9 27 5 x4 Try.underlying9 Try.underlying27 Try.underlying5 (HDOM.out x4 (by simp))
    go_wp2_with fail
    refine (ref2_GetNums_any _ s7 hc7 hc7m HO4).mono ?_
    rintro e w8 ⟨⟨A8, n8, c8, b8, rfl, HE8⟩, hb8⟩
    have hbd8 := below_then (below_then hbd6 hb7) hb8
    have hb68 := below_then hb7 hb8
    have hz6 := hbd6.size
    have hz7 := hb7.size
    clear hbd6 HCV s7 q4
    have kr8 := krq.later hbd8
    have hb8' := below_then hbq hbd8
    have HOW : Hid (∀ l m, o3 = some l → o4 = some m → b6 = true ∧ b8 = true ∧ w8.ownsRow w.heap.size 3 1 (.slice A6 n6 c6) l.length (ints l) ∧ w8.ownsRow w.heap.size 3 1 (.slice A8 n8 c8) m.length (ints m) ∧ ((Value.slice A6 n6 c6).ownBlock = none ∨ (Value.slice A6 n6 c6).ownBlock ≠ (Value.slice A8 n8 c8).ownBlock)) := fun l m hl hm => by
      subst hl; subst hm
      obtain ⟨e1, o1⟩ := HE6
      obtain ⟨e2, o2⟩ := HE8
      refine ⟨e1, e2, own_mono (own_later o1 hb68) (by omega), own_mono o2 (by omega), ?_⟩
      rcases hq : (Value.slice A6 n6 c6).ownBlock with _ | g
      · exact Or.inl rfl
      · refine Or.inr fun e => ?_
        have h1 := (o1.lt g hq).2
        have h2 := (o2.lt g e.symm).1
        omega
    have HN6 : Hid (o3 = none → b6 = false) := fun h => by subst h; exact HE6
    have HN8 : Hid (o4 = none → b8 = false) := fun h => by subst h; exact HE8
    have HZ8 : Hid (w.heap.size < w8.heap.size) := kr8.lt
    have kk := Blk.new w8 49 #[.int .i64 z1, .int .i64 z2, .slice A6 n6 c6, .slice A8 n8 c8]
    have kr9 := kr8.alloc (.cells #[.int .i64 z1, .int .i64 z2, .slice A6 n6 c6, .slice A8 n8 c8] 49)
    have hb9 := hb8'.alloc hb8'.size (.cells #[.int .i64 z1, .int .i64 z2, .slice A6 n6 c6, .slice A8 n8 c8] 49)
    have HOW9 : Hid (∀ l m, o3 = some l → o4 = some m → b6 = true ∧ b8 = true ∧ (w8.alloc (.cells #[.int .i64 z1, .int .i64 z2, .slice A6 n6 c6, .slice A8 n8 c8] 49)).ownsRow w.heap.size 3 1 (.slice A6 n6 c6) l.length (ints l) ∧ (w8.alloc (.cells #[.int .i64 z1, .int .i64 z2, .slice A6 n6 c6, .slice A8 n8 c8] 49)).ownsRow w.heap.size 3 1 (.slice A8 n8 c8) m.length (ints m) ∧ ((Value.slice A6 n6 c6).ownBlock = none ∨ (Value.slice A6 n6 c6).ownBlock ≠ (Value.slice A8 n8 c8).ownBlock)) := fun l m hl hm => by
      obtain ⟨h1, h2, h3, h4, h5⟩ := HOW.out l m hl hm
      exact ⟨h1, h2, h3.alloc _, h4.alloc _, h5⟩
    clear hbd8 hb68 hb7 hb8 krq hbq kr8 hb8' HE6 HE8 HOW hb6
    go_upto_region 9 with fail
    generalize w8.alloc (.cells #[.int .i64 z1, .int .i64 z2, .slice A6 n6 c6, .slice A8 n8 c8] 49) = w9 at kk kr9 hb9 HOW9 ⊢
    obtain ⟨gk, hgk⟩ : ∃ gk, w8.heap.size = gk := ⟨_, rfl⟩
    have hgw : w.heap.size < gk := by have := HZ8.out; omega
    rw [hgk] at kk ⊢
    clear hgk hz5 hz6 hz7
    have krq := kr9
    have hbq := hb9
    clear kr9 hb9
    cases p1 with
    | false =>
      have HNO : Hid (r = none) := by rw [Hid, ← HRD.out]; exact rdH_bad (Or.inl (wholes_not (Or.inl (by have := HP1.out; cases h : wholeN x1 with | none => rfl | some z => rw [h] at this; cases this))))
      clear HOW9
      have r0 : w9.cell? ⟨w.heap.size, 0, none⟩ = some (.int .i64 0) := krq.at_ rfl
      have r1 : w9.cell? ⟨w.heap.size, 1, none⟩ = some (.int .i64 0) := krq.at_ rfl
      have r2 : w9.cell? ⟨w.heap.size, 2, none⟩ = some (.slice none 0 0) := krq.at_ rfl
      have r3 : w9.cell? ⟨w.heap.size, 3, none⟩ = some (.slice none 0 0) := krq.at_ rfl
      have f0 := krq.frozen 0
      have f1 := krq.frozen 1
      have f2 := krq.frozen 2
      have f3 := krq.frozen 3
      go_wp2_with fail
      have KRF : Blk ((((w9.setCell ⟨w.heap.size, 0, none⟩ (.int .i64 0)).setCell ⟨w.heap.size, 1, none⟩ (.int .i64 0)).setCell ⟨w.heap.size, 2, none⟩ (.slice none 0 0)).setCell ⟨w.heap.size, 3, none⟩ (.slice none 0 0)) w.heap.size 49 #[.int .i64 0, .int .i64 0, .slice none 0 0, .slice none 0 0] := (((krq.set_ 0 _).set_ 1 _).set_ 2 _).set_ 3 _
      have HBF := (((hbq.setCell (p := ⟨w.heap.size, 0, none⟩) (Nat.le_refl _) (.int .i64 0)).setCell (p := ⟨w.heap.size, 1, none⟩) (Nat.le_refl _) (.int .i64 0)).setCell (p := ⟨w.heap.size, 2, none⟩) (Nat.le_refl _) (.slice none 0 0)).setCell (p := ⟨w.heap.size, 3, none⟩) (Nat.le_refl _) (.slice none 0 0)
      clear r0 r1 r2 r3 f0 f1 f2 f3 krq hbq
      generalize (((w9.setCell ⟨w.heap.size, 0, none⟩ (.int .i64 0)).setCell ⟨w.heap.size, 1, none⟩ (.int .i64 0)).setCell ⟨w.heap.size, 2, none⟩ (.slice none 0 0)).setCell ⟨w.heap.size, 3, none⟩ (.slice none 0 0) = wf at KRF HBF ⊢
      have r0 : wf.cell? ⟨w.heap.size, 0, none⟩ = some (.int .i64 0) := KRF.at_ rfl
      have r1 : wf.cell? ⟨w.heap.size, 1, none⟩ = some (.int .i64 0) := KRF.at_ rfl
      have r2 : wf.cell? ⟨w.heap.size, 2, none⟩ = some (.slice none 0 0) := KRF.at_ rfl
      have r3 : wf.cell? ⟨w.heap.size, 3, none⟩ = some (.slice none 0 0) := KRF.at_ rfl
      exact bodyPost_ret (v := .tuple #[.agg #[.int .i64 0, .int .i64 0, .slice none 0 0, .slice none 0 0], .bool false]) (by simp [results, Try.results34, go_sem, r0, r1, r2, r3]) rfl (EndH.no HNO.out HBF)
    | true =>
      cases p2 with
      | false =>
        have HNO : Hid (r = none) := by rw [Hid, ← HRD.out]; exact rdH_bad (Or.inl (wholes_not (Or.inr (by have := HP2.out; cases h : wholeN x2 with | none => rfl | some z => rw [h] at this; cases this))))
        clear HOW9
        have r0 : w9.cell? ⟨w.heap.size, 0, none⟩ = some (.int .i64 0) := krq.at_ rfl
        have r1 : w9.cell? ⟨w.heap.size, 1, none⟩ = some (.int .i64 0) := krq.at_ rfl
        have r2 : w9.cell? ⟨w.heap.size, 2, none⟩ = some (.slice none 0 0) := krq.at_ rfl
        have r3 : w9.cell? ⟨w.heap.size, 3, none⟩ = some (.slice none 0 0) := krq.at_ rfl
        have f0 := krq.frozen 0
        have f1 := krq.frozen 1
        have f2 := krq.frozen 2
        have f3 := krq.frozen 3
        go_wp2_with fail
        have KRF : Blk ((((w9.setCell ⟨w.heap.size, 0, none⟩ (.int .i64 0)).setCell ⟨w.heap.size, 1, none⟩ (.int .i64 0)).setCell ⟨w.heap.size, 2, none⟩ (.slice none 0 0)).setCell ⟨w.heap.size, 3, none⟩ (.slice none 0 0)) w.heap.size 49 #[.int .i64 0, .int .i64 0, .slice none 0 0, .slice none 0 0] := (((krq.set_ 0 _).set_ 1 _).set_ 2 _).set_ 3 _
        have HBF := (((hbq.setCell (p := ⟨w.heap.size, 0, none⟩) (Nat.le_refl _) (.int .i64 0)).setCell (p := ⟨w.heap.size, 1, none⟩) (Nat.le_refl _) (.int .i64 0)).setCell (p := ⟨w.heap.size, 2, none⟩) (Nat.le_refl _) (.slice none 0 0)).setCell (p := ⟨w.heap.size, 3, none⟩) (Nat.le_refl _) (.slice none 0 0)
        clear r0 r1 r2 r3 f0 f1 f2 f3 krq hbq
        generalize (((w9.setCell ⟨w.heap.size, 0, none⟩ (.int .i64 0)).setCell ⟨w.heap.size, 1, none⟩ (.int .i64 0)).setCell ⟨w.heap.size, 2, none⟩ (.slice none 0 0)).setCell ⟨w.heap.size, 3, none⟩ (.slice none 0 0) = wf at KRF HBF ⊢
        have r0 : wf.cell? ⟨w.heap.size, 0, none⟩ = some (.int .i64 0) := KRF.at_ rfl
        have r1 : wf.cell? ⟨w.heap.size, 1, none⟩ = some (.int .i64 0) := KRF.at_ rfl
        have r2 : wf.cell? ⟨w.heap.size, 2, none⟩ = some (.slice none 0 0) := KRF.at_ rfl
        have r3 : wf.cell? ⟨w.heap.size, 3, none⟩ = some (.slice none 0 0) := KRF.at_ rfl
        exact bodyPost_ret (v := .tuple #[.agg #[.int .i64 0, .int .i64 0, .slice none 0 0, .slice none 0 0], .bool false]) (by simp [results, Try.results34, go_sem, r0, r1, r2, r3]) rfl (EndH.no HNO.out HBF)
      | true =>
        have HWW : Hid (wholes [x1, x2] = some [z1, z2]) := by
          obtain ⟨y1, h1⟩ := Option.isSome_iff_exists.1 HP1.out
          obtain ⟨y2, h2⟩ := Option.isSome_iff_exists.1 HP2.out
          rw [HZ1.out y1 h1, HZ2.out y2 h2]
          exact wholes_two h1 h2
        cases o3 with
        | none =>
          obtain rfl := HN6.out rfl
          have HNO : Hid (r = none) := by rw [Hid, ← HRD.out]; exact rdH_bad (Or.inr (Or.inl HO3.out))
          clear HOW9
          have r0 : w9.cell? ⟨w.heap.size, 0, none⟩ = some (.int .i64 0) := krq.at_ rfl
          have r1 : w9.cell? ⟨w.heap.size, 1, none⟩ = some (.int .i64 0) := krq.at_ rfl
          have r2 : w9.cell? ⟨w.heap.size, 2, none⟩ = some (.slice none 0 0) := krq.at_ rfl
          have r3 : w9.cell? ⟨w.heap.size, 3, none⟩ = some (.slice none 0 0) := krq.at_ rfl
          have f0 := krq.frozen 0
          have f1 := krq.frozen 1
          have f2 := krq.frozen 2
          have f3 := krq.frozen 3
          go_wp2_with fail
          have KRF : Blk ((((w9.setCell ⟨w.heap.size, 0, none⟩ (.int .i64 0)).setCell ⟨w.heap.size, 1, none⟩ (.int .i64 0)).setCell ⟨w.heap.size, 2, none⟩ (.slice none 0 0)).setCell ⟨w.heap.size, 3, none⟩ (.slice none 0 0)) w.heap.size 49 #[.int .i64 0, .int .i64 0, .slice none 0 0, .slice none 0 0] := (((krq.set_ 0 _).set_ 1 _).set_ 2 _).set_ 3 _
          have HBF := (((hbq.setCell (p := ⟨w.heap.size, 0, none⟩) (Nat.le_refl _) (.int .i64 0)).setCell (p := ⟨w.heap.size, 1, none⟩) (Nat.le_refl _) (.int .i64 0)).setCell (p := ⟨w.heap.size, 2, none⟩) (Nat.le_refl _) (.slice none 0 0)).setCell (p := ⟨w.heap.size, 3, none⟩) (Nat.le_refl _) (.slice none 0 0)
          clear r0 r1 r2 r3 f0 f1 f2 f3 krq hbq
          generalize (((w9.setCell ⟨w.heap.size, 0, none⟩ (.int .i64 0)).setCell ⟨w.heap.size, 1, none⟩ (.int .i64 0)).setCell ⟨w.heap.size, 2, none⟩ (.slice none 0 0)).setCell ⟨w.heap.size, 3, none⟩ (.slice none 0 0) = wf at KRF HBF ⊢
          have r0 : wf.cell? ⟨w.heap.size, 0, none⟩ = some (.int .i64 0) := KRF.at_ rfl
          have r1 : wf.cell? ⟨w.heap.size, 1, none⟩ = some (.int .i64 0) := KRF.at_ rfl
          have r2 : wf.cell? ⟨w.heap.size, 2, none⟩ = some (.slice none 0 0) := KRF.at_ rfl
          have r3 : wf.cell? ⟨w.heap.size, 3, none⟩ = some (.slice none 0 0) := KRF.at_ rfl
          exact bodyPost_ret (v := .tuple #[.agg #[.int .i64 0, .int .i64 0, .slice none 0 0, .slice none 0 0], .bool false]) (by simp [results, Try.results34, go_sem, r0, r1, r2, r3]) rfl (EndH.no HNO.out HBF)
        | some l =>
          cases o4 with
          | none =>
            obtain rfl := HN8.out rfl
            have HNO : Hid (r = none) := by rw [Hid, ← HRD.out]; exact rdH_bad (Or.inr (Or.inr HO4.out))
            clear HOW9 HN6
            cases b6
            all_goals
              have r0 : w9.cell? ⟨w.heap.size, 0, none⟩ = some (.int .i64 0) := krq.at_ rfl
              have r1 : w9.cell? ⟨w.heap.size, 1, none⟩ = some (.int .i64 0) := krq.at_ rfl
              have r2 : w9.cell? ⟨w.heap.size, 2, none⟩ = some (.slice none 0 0) := krq.at_ rfl
              have r3 : w9.cell? ⟨w.heap.size, 3, none⟩ = some (.slice none 0 0) := krq.at_ rfl
              have f0 := krq.frozen 0
              have f1 := krq.frozen 1
              have f2 := krq.frozen 2
              have f3 := krq.frozen 3
              go_wp2_with fail
              have KRF : Blk ((((w9.setCell ⟨w.heap.size, 0, none⟩ (.int .i64 0)).setCell ⟨w.heap.size, 1, none⟩ (.int .i64 0)).setCell ⟨w.heap.size, 2, none⟩ (.slice none 0 0)).setCell ⟨w.heap.size, 3, none⟩ (.slice none 0 0)) w.heap.size 49 #[.int .i64 0, .int .i64 0, .slice none 0 0, .slice none 0 0] := (((krq.set_ 0 _).set_ 1 _).set_ 2 _).set_ 3 _
              have HBF := (((hbq.setCell (p := ⟨w.heap.size, 0, none⟩) (Nat.le_refl _) (.int .i64 0)).setCell (p := ⟨w.heap.size, 1, none⟩) (Nat.le_refl _) (.int .i64 0)).setCell (p := ⟨w.heap.size, 2, none⟩) (Nat.le_refl _) (.slice none 0 0)).setCell (p := ⟨w.heap.size, 3, none⟩) (Nat.le_refl _) (.slice none 0 0)
              clear r0 r1 r2 r3 f0 f1 f2 f3 krq hbq
              generalize (((w9.setCell ⟨w.heap.size, 0, none⟩ (.int .i64 0)).setCell ⟨w.heap.size, 1, none⟩ (.int .i64 0)).setCell ⟨w.heap.size, 2, none⟩ (.slice none 0 0)).setCell ⟨w.heap.size, 3, none⟩ (.slice none 0 0) = wf at KRF HBF ⊢
              have r0 : wf.cell? ⟨w.heap.size, 0, none⟩ = some (.int .i64 0) := KRF.at_ rfl
              have r1 : wf.cell? ⟨w.heap.size, 1, none⟩ = some (.int .i64 0) := KRF.at_ rfl
              have r2 : wf.cell? ⟨w.heap.size, 2, none⟩ = some (.slice none 0 0) := KRF.at_ rfl
              have r3 : wf.cell? ⟨w.heap.size, 3, none⟩ = some (.slice none 0 0) := KRF.at_ rfl
              exact bodyPost_ret (v := .tuple #[.agg #[.int .i64 0, .int .i64 0, .slice none 0 0, .slice none 0 0], .bool false]) (by simp [results, Try.results34, go_sem, r0, r1, r2, r3]) rfl (EndH.no HNO.out HBF)
          | some m =>
            obtain ⟨rfl, rfl, o5, o8, hsep⟩ := HOW9.out l m rfl rfl
            have h5 : n6 = l.length := by obtain ⟨A5', c5', h5⟩ := own_slice o5; injection h5
            have h8 : n8 = m.length := by obtain ⟨A8', c8', h8⟩ := own_slice o8; injection h8
            subst h5
            subst h8
            have m5 : l.length ≤ 9223372036854775807 := by obtain ⟨_, _, _, m5, m5'⟩ := own_slice_cap o5; unfold maxLen at m5'; omega
            have m8 : m.length ≤ 9223372036854775807 := by obtain ⟨_, _, _, m5, m5'⟩ := own_slice_cap o8; unfold maxLen at m5'; omega
            have s5 := Sl.of_own o5
            have s8 := Sl.of_own o8
            obtain ⟨f, HF⟩ : ∃ f, Hid (formH 16 ⟨z1, z2, l, m⟩ = f) := ⟨_, rfl⟩
            have HRG : Hid (r = if f = true then some ⟨z1, z2, l, m⟩ else none) := by rw [Hid, ← HRD.out, rdH_good HWW.out HO3.out HO4.out, HF.out]
            have HC := hide (ref4_Wide (c1 := c6) (c2 := c8) ⟨z1, z2, l, m⟩ w9 s5 s8 m5 m8 HF)
            unfold hdV at HC
            have c0 : w9.cell? ⟨gk, 0, none⟩ = some (.int .i64 z1) := kk.at_ rfl
            have c1 : w9.cell? ⟨gk, 1, none⟩ = some (.int .i64 z2) := kk.at_ rfl
            have c2' : w9.cell? ⟨gk, 2, none⟩ = some (.slice A6 l.length c6) := kk.at_ rfl
            have c3 : w9.cell? ⟨gk, 3, none⟩ = some (.slice A8 m.length c8) := kk.at_ rfl
            clear s5 s8 HOW9
            go_wp2_with fail
            refine HC.out.mono ?_
            rintro e w10 ⟨rfl, hb10'⟩
            have kb10 := kk.later hb10'
            have kr10 := krq.later hb10'
            have hb10 := below_then hbq hb10'
            have o5' := own_later o5 hb10'
            have o8' := own_later o8 hb10'
            clear hb10' kk krq hbq o5 o8 c0 c1 c2' c3 HC
            cases f with
            | false =>
              have HNO : Hid (r = none) := by rw [Hid, HRG.out]; rfl
              have krq := kr10
              have hbq := hb10
              clear kr10 hb10
              have r0 : w10.cell? ⟨w.heap.size, 0, none⟩ = some (.int .i64 0) := krq.at_ rfl
              have r1 : w10.cell? ⟨w.heap.size, 1, none⟩ = some (.int .i64 0) := krq.at_ rfl
              have r2 : w10.cell? ⟨w.heap.size, 2, none⟩ = some (.slice none 0 0) := krq.at_ rfl
              have r3 : w10.cell? ⟨w.heap.size, 3, none⟩ = some (.slice none 0 0) := krq.at_ rfl
              have f0 := krq.frozen 0
              have f1 := krq.frozen 1
              have f2 := krq.frozen 2
              have f3 := krq.frozen 3
              go_wp2_with fail
              have KRF : Blk ((((w10.setCell ⟨w.heap.size, 0, none⟩ (.int .i64 0)).setCell ⟨w.heap.size, 1, none⟩ (.int .i64 0)).setCell ⟨w.heap.size, 2, none⟩ (.slice none 0 0)).setCell ⟨w.heap.size, 3, none⟩ (.slice none 0 0)) w.heap.size 49 #[.int .i64 0, .int .i64 0, .slice none 0 0, .slice none 0 0] := (((krq.set_ 0 _).set_ 1 _).set_ 2 _).set_ 3 _
              have HBF := (((hbq.setCell (p := ⟨w.heap.size, 0, none⟩) (Nat.le_refl _) (.int .i64 0)).setCell (p := ⟨w.heap.size, 1, none⟩) (Nat.le_refl _) (.int .i64 0)).setCell (p := ⟨w.heap.size, 2, none⟩) (Nat.le_refl _) (.slice none 0 0)).setCell (p := ⟨w.heap.size, 3, none⟩) (Nat.le_refl _) (.slice none 0 0)
              clear r0 r1 r2 r3 f0 f1 f2 f3 krq hbq
              generalize (((w10.setCell ⟨w.heap.size, 0, none⟩ (.int .i64 0)).setCell ⟨w.heap.size, 1, none⟩ (.int .i64 0)).setCell ⟨w.heap.size, 2, none⟩ (.slice none 0 0)).setCell ⟨w.heap.size, 3, none⟩ (.slice none 0 0) = wf at KRF HBF ⊢
              have r0 : wf.cell? ⟨w.heap.size, 0, none⟩ = some (.int .i64 0) := KRF.at_ rfl
              have r1 : wf.cell? ⟨w.heap.size, 1, none⟩ = some (.int .i64 0) := KRF.at_ rfl
              have r2 : wf.cell? ⟨w.heap.size, 2, none⟩ = some (.slice none 0 0) := KRF.at_ rfl
              have r3 : wf.cell? ⟨w.heap.size, 3, none⟩ = some (.slice none 0 0) := KRF.at_ rfl
              exact bodyPost_ret (v := .tuple #[.agg #[.int .i64 0, .int .i64 0, .slice none 0 0, .slice none 0 0], .bool false]) (by simp [results, Try.results34, go_sem, r0, r1, r2, r3]) rfl (EndH.no HNO.out HBF)
            | true =>
              have HYES : Hid (r = some ⟨z1, z2, l, m⟩) := by rw [Hid, HRG.out]; rfl
              have c0 : w10.cell? ⟨gk, 0, none⟩ = some (.int .i64 z1) := kb10.at_ rfl
              have c1 : w10.cell? ⟨gk, 1, none⟩ = some (.int .i64 z2) := kb10.at_ rfl
              have c2' : w10.cell? ⟨gk, 2, none⟩ = some (.slice A6 l.length c6) := kb10.at_ rfl
              have c3 : w10.cell? ⟨gk, 3, none⟩ = some (.slice A8 m.length c8) := kb10.at_ rfl
              have r0 : w10.cell? ⟨w.heap.size, 0, none⟩ = some (.int .i64 0) := kr10.at_ rfl
              have r1 : w10.cell? ⟨w.heap.size, 1, none⟩ = some (.int .i64 0) := kr10.at_ rfl
              have r2 : w10.cell? ⟨w.heap.size, 2, none⟩ = some (.slice none 0 0) := kr10.at_ rfl
              have r3 : w10.cell? ⟨w.heap.size, 3, none⟩ = some (.slice none 0 0) := kr10.at_ rfl
              have f0 := kr10.frozen 0
              have f1 := kr10.frozen 1
              have f2 := kr10.frozen 2
              have f3 := kr10.frozen 3
              go_wp2_with fail
              have n5 := own_blk_ne o5' kr10 (by decide)
              have n8 := own_blk_ne o8' kr10 (by decide)
              have KRF := (((kr10.set_ 0 (.int .i64 z1)).set_ 1 (.int .i64 z2)).set_ 2 (.slice A6 l.length c6)).set_ 3 (.slice A8 m.length c8)
              have OW5 := (((o5'.kept (grown_set w10 w.heap.size 0 (.int .i64 z1)) (Or.inr n5)).kept (grown_set _ w.heap.size 1 (.int .i64 z2)) (Or.inr n5)).kept (grown_set _ w.heap.size 2 (.slice A6 l.length c6)) (Or.inr n5)).kept (grown_set _ w.heap.size 3 (.slice A8 m.length c8)) (Or.inr n5)
              have OW8 := (((o8'.kept (grown_set w10 w.heap.size 0 (.int .i64 z1)) (Or.inr n8)).kept (grown_set _ w.heap.size 1 (.int .i64 z2)) (Or.inr n8)).kept (grown_set _ w.heap.size 2 (.slice A6 l.length c6)) (Or.inr n8)).kept (grown_set _ w.heap.size 3 (.slice A8 m.length c8)) (Or.inr n8)
              have HBF := (((hb10.setCell (p := ⟨w.heap.size, 0, none⟩) (Nat.le_refl _) (.int .i64 z1)).setCell (p := ⟨w.heap.size, 1, none⟩) (Nat.le_refl _) (.int .i64 z2)).setCell (p := ⟨w.heap.size, 2, none⟩) (Nat.le_refl _) (.slice A6 l.length c6)).setCell (p := ⟨w.heap.size, 3, none⟩) (Nat.le_refl _) (.slice A8 m.length c8)
              clear c0 c1 c2' c3 r0 r1 r2 r3 f0 f1 f2 f3 kb10 kr10 hb10 o5' o8' n5 n8
              generalize (((w10.setCell ⟨w.heap.size, 0, none⟩ (.int .i64 z1)).setCell ⟨w.heap.size, 1, none⟩ (.int .i64 z2)).setCell ⟨w.heap.size, 2, none⟩ (.slice A6 l.length c6)).setCell ⟨w.heap.size, 3, none⟩ (.slice A8 m.length c8) = wf at KRF OW5 OW8 HBF ⊢
              have r0 : wf.cell? ⟨w.heap.size, 0, none⟩ = some (.int .i64 z1) := KRF.at_ rfl
              have r1 : wf.cell? ⟨w.heap.size, 1, none⟩ = some (.int .i64 z2) := KRF.at_ rfl
              have r2 : wf.cell? ⟨w.heap.size, 2, none⟩ = some (.slice A6 l.length c6) := KRF.at_ rfl
              have r3 : wf.cell? ⟨w.heap.size, 3, none⟩ = some (.slice A8 m.length c8) := KRF.at_ rfl
              exact bodyPost_ret (v := .tuple #[.agg #[.int .i64 z1, .int .i64 z2, .slice A6 l.length c6, .slice A8 m.length c8], .bool true]) (by simp [results, Try.results34, go_sem, r0, r1, r2, r3]) rfl (EndH.yes HYES.out OW5 OW8 hsep HBF)
end Go.Proofs.Ytihpmaifcebpiaa
