/-
  Contract: the header that bytes are: the program's.
-/
import Derived.Test.YtmnogefpphonlaaGr06
import Derived.Test.YtmnogefpphonlaaGr05
import Derived.Test.YtmnogefpphonlaaBatP
import Derived.Test.YtmnogefpphonlaaGr12
import Derived.Deep.DeepCutAuto
set_option linter.unusedVariables false
set_option linter.unusedSimpArgs false
namespace Go.Proofs.Ytmnogefpphonlaa
open Go.RowKit

/-- What a reader of headers answers. -/
def EndH (vok vno : Value) (t : TypeId) (r : Option HdD) (w : World) (e : Ending) (w' : World) : Prop :=
  match r with
  | some x => ∃ v1 v2, e = .returned (.tuple #[.agg #[.int .i64 x.a, .int .i64 x.r, v1, v2], vok]) ∧ w'.ownsRow w.heap.size t 1 v1 x.bs.length (ints x.bs) ∧ w'.ownsRow w.heap.size t 1 v2 x.ps.length (ints x.ps) ∧ (v1.ownBlock = none ∨ v1.ownBlock ≠ v2.ownBlock) ∧ Below w.heap.size w w'
  | none => e = .returned (.tuple #[.agg #[.int .i64 0, .int .i64 0, .slice none 0 0, .slice none 0 0], vno]) ∧ Below w.heap.size w w'
theorem EndH.no {vok vno : Value} {t : TypeId} {r : Option HdD} {w w' : World} (h : r = none) (hb : Below w.heap.size w w') : EndH vok vno t r w (.returned (.tuple #[.agg #[.int .i64 0, .int .i64 0, .slice none 0 0, .slice none 0 0], vno])) w' := by
  subst h; exact ⟨rfl, hb⟩
theorem EndH.yes {vok vno : Value} {t : TypeId} {r : Option HdD} {w w' : World} {a ra : Int} {bs ps : List Int} {v1 v2 : Value} (h : r = some ⟨a, ra, bs, ps⟩) (h1 : w'.ownsRow w.heap.size t 1 v1 bs.length (ints bs)) (h2 : w'.ownsRow w.heap.size t 1 v2 ps.length (ints ps)) (h3 : v1.ownBlock = none ∨ v1.ownBlock ≠ v2.ownBlock)
    (hb : Below w.heap.size w w') : EndH vok vno t r w (.returned (.tuple #[.agg #[.int .i64 a, .int .i64 ra, v1, v2], vok])) w' := by
  subst h; exact ⟨v1, v2, rfl, h1, h2, h3, hb⟩
/-- What is told of numbers that were read. -/
def EndN (t : TypeId) (o : Option (List Int)) (E : Int) (v : Value) (w w' : World) : Prop :=
  match o with
  | some l => E = 0 ∧ w'.ownsRow w.heap.size t 1 v l.length (ints l)
  | none => E = 1
theorem wire_GetNums_any {A : Option Addr} {n c : Nat} {bs : List UInt8} (w : World) (hs : Sl w 1 A n (bytes8 bs)) (hnc : n ≤ c) (hc : c ≤ 9223372036854775807) {o : Option (List Int)} (ho : Hid (getI bs = o)) :
    Calls Try.prog 31 #[.slice A n c] w fun e w' => (∃ A' n' c' E, e = .returned (.tuple #[.slice A' n' c', .int .i64 E]) ∧ EndN 3 o E (.slice A' n' c') w w') ∧ Below w.heap.size w w' := by
  cases o with
  | none =>
    refine (wire_GetNums_no w hs hnc hc ho.out).mono ?_
    rintro e w' ⟨rfl, hb⟩
    exact ⟨⟨none, 0, 0, 1, rfl, rfl⟩, hb⟩
  | some l =>
    refine (wire_GetNums_yes w hs hnc hc ho.out).mono ?_
    rintro e w' ⟨v, rfl, h, hb⟩
    obtain ⟨A', c', rfl⟩ := own_slice h
    exact ⟨⟨A', _, c', 0, rfl, rfl, h⟩, hb⟩
theorem rdH_len {ls : List ByteArray} (h : ls.length ≠ 5) : rdH ls = none := by
  unfold rdH
  split
  · exact absurd rfl h
  · rfl
theorem rdH_word {w a r x y : ByteArray} (h : w ≠ headerW) : rdH [w, a, r, x, y] = none := by
  unfold rdH; simp [h]
theorem rdH_bad {w a r x y : ByteArray} (h : wholes [a, r] = none ∨ getI x.data.toList = none ∨ getI y.data.toList = none) : rdH [w, a, r, x, y] = none := by
  unfold rdH
  dsimp only
  by_cases hw : w = headerW
  · rw [if_pos hw]
    rcases h with h | h | h
    · rw [wholes, wholes, wholes] at h
      cases ha : wholeN a with
      | none => rfl
      | some a' =>
        cases hr : wholeN r with
        | none => rfl
        | some r' => rw [ha, hr] at h; simp at h
    · rw [h]; cases wholeN a <;> cases wholeN r <;> rfl
    · rw [h]; cases wholeN a <;> cases wholeN r <;> cases getI x.data.toList <;> rfl
  · rw [if_neg hw]
theorem rdH_good {a r x y : ByteArray} {a' r' : Int} {l m : List Int} (h : wholes [a, r] = some [a', r']) (hx : getI x.data.toList = some l) (hy : getI y.data.toList = some m) :
    rdH [headerW, a, r, x, y] = if formH 16 ⟨a', r', l, m⟩ = true then some ⟨a', r', l, m⟩ else none := by
  rw [wholes, wholes, wholes] at h
  unfold rdH
  simp only [if_true]
  cases ha : wholeN a with
  | none => rw [ha] at h; simp at h
  | some z1 =>
    cases hr : wholeN r with
    | none => rw [ha, hr] at h; simp at h
    | some z2 =>
      rw [ha, hr] at h
      simp at h
      obtain ⟨rfl, rfl⟩ := h
      rw [hx, hy]
set_option maxRecDepth 100000 in
set_option maxHeartbeats 1500000 in
theorem header_Parse {A : Option Addr} {n c : Nat} {bs : List UInt8} (w : World) (hs : Sl w 1 A n (bytes8 bs)) (hnc : n ≤ c) (hc : c ≤ 9223372036854775807) {r : Option HdD} (hr : Hid (parseH bs = r)) :
    Calls Try.prog 30 #[.slice A n c] w (EndH (.int .i64 0) (.int .i64 1) 3 r w) := by
  have hs2 := (hs.alloc (.cells #[.int .i64 0, .int .i64 0, .slice none 0 0, .slice none 0 0] 28)).alloc (.cells #[.int .i64 0, .int .i64 0, .slice none 0 0, .slice none 0 0] 28)
  have kb := Blk.new2 w (.cells #[.int .i64 0, .int .i64 0, .slice none 0 0, .slice none 0 0] 28) 28 #[.int .i64 0, .int .i64 0, .slice none 0 0, .slice none 0 0]
  have kr := (Blk.new w 28 #[.int .i64 0, .int .i64 0, .slice none 0 0, .slice none 0 0]).alloc (.cells #[.int .i64 0, .int .i64 0, .slice none 0 0, .slice none 0 0] 28)
  have hb0 : Below w.heap.size w ((w.alloc (.cells #[.int .i64 0, .int .i64 0, .slice none 0 0, .slice none 0 0] 28)).alloc (.cells #[.int .i64 0, .int .i64 0, .slice none 0 0, .slice none 0 0] 28)) := (below_alloc' w _).alloc (by simp) _
  clear hs
  go_enter Try.func30, Try.ntmps30
  go_wp2_with fail
  refine scope_loop 0 (fun a w' => ∃ (u0 u1 u3 u4 u5 u6 u7 u8 u9 u10 u11 u12 u13 u14 u15 u16 u17 u18 u19 u20 u21 u22 u23 u24 u25 u26 u27 u28 u29 u30 u31 u32 u33 u34 u35 u36 u37 u38 u39 u40 u41 u42 u43 u44 u45 u46 u47 u48 u49 u50 u51 u52 u53 u54 u55 u56 u57 u58 u59 u60 u61 u62 u63 u64 : Value), a = { tmps := #[u0, u1, .pointer (some ⟨w.heap.size, 0, none⟩), u3, u4, u5, u6, u7, u8, u9, u10, u11, u12, u13, u14, u15, u16, u17, u18, u19, u20, u21, u22, u23, u24, u25, u26, u27, u28, u29, u30, u31, u32, u33, u34, u35, u36, u37, u38, u39, u40, u41, u42, u43, u44, u45, u46, u47, u48, u49, u50, u51, u52, u53, u54, u55, u56, u57, u58, u59, u60, u61, u62, u63, u64], defers := [] } ∧ Blk w' w.heap.size 28 #[.int .i64 0, .int .i64 0, .slice none 0 0, .slice none 0 0] ∧ Below w.heap.size w w' ∧ Hid (r = none)) (fun _ _ => 0) rfl ?_ ?_
  · rintro a w' ⟨u0, u1, u3, u4, u5, u6, u7, u8, u9, u10, u11, u12, u13, u14, u15, u16, u17, u18, u19, u20, u21, u22, u23, u24, u25, u26, u27, u28, u29, u30, u31, u32, u33, u34, u35, u36, u37, u38, u39, u40, u41, u42, u43, u44, u45, u46, u47, u48, u49, u50, u51, u52, u53, u54, u55, u56, u57, u58, u59, u60, u61, u62, u63, u64, rfl, kr', hb', HNO⟩
    clear kb kr hb0 hs2
    have r0 : w'.cell? ⟨w.heap.size, 0, none⟩ = some (.int .i64 0) := kr'.at_ rfl
    have r1 : w'.cell? ⟨w.heap.size, 1, none⟩ = some (.int .i64 0) := kr'.at_ rfl
    have r2 : w'.cell? ⟨w.heap.size, 2, none⟩ = some (.slice none 0 0) := kr'.at_ rfl
    have r3 : w'.cell? ⟨w.heap.size, 3, none⟩ = some (.slice none 0 0) := kr'.at_ rfl
    have f0 := kr'.frozen 0
    have f1 := kr'.frozen 1
    have f2 := kr'.frozen 2
    have f3 := kr'.frozen 3
    go_wp2_with fail
    try rw [Exit.jump_ret]
    have KRF := (((kr'.set_ 0 (.int .i64 0)).set_ 1 (.int .i64 0)).set_ 2 (.slice none 0 0)).set_ 3 (.slice none 0 0)
    have HBF := (((hb'.setCell (p := ⟨w.heap.size, 0, none⟩) (Nat.le_refl _) (.int .i64 0)).setCell (p := ⟨w.heap.size, 1, none⟩) (Nat.le_refl _) (.int .i64 0)).setCell (p := ⟨w.heap.size, 2, none⟩) (Nat.le_refl _) (.slice none 0 0)).setCell (p := ⟨w.heap.size, 3, none⟩) (Nat.le_refl _) (.slice none 0 0)
    clear r0 r1 r2 r3 f0 f1 f2 f3 kr' hb'
    generalize (((w'.setCell ⟨w.heap.size, 0, none⟩ (.int .i64 0)).setCell ⟨w.heap.size, 1, none⟩ (.int .i64 0)).setCell ⟨w.heap.size, 2, none⟩ (.slice none 0 0)).setCell ⟨w.heap.size, 3, none⟩ (.slice none 0 0) = wf at KRF HBF ⊢
    have r0 : wf.cell? ⟨w.heap.size, 0, none⟩ = some (.int .i64 0) := KRF.at_ rfl
    have r1 : wf.cell? ⟨w.heap.size, 1, none⟩ = some (.int .i64 0) := KRF.at_ rfl
    have r2 : wf.cell? ⟨w.heap.size, 2, none⟩ = some (.slice none 0 0) := KRF.at_ rfl
    have r3 : wf.cell? ⟨w.heap.size, 3, none⟩ = some (.slice none 0 0) := KRF.at_ rfl
    exact bodyPost_ret (v := .tuple #[.agg #[.int .i64 0, .int .i64 0, .slice none 0 0, .slice none 0 0], .int .i64 1]) (by simp [results, Try.results30, go_sem, r0, r1, r2, r3]) rfl (EndH.no HNO.out HBF)
  · intro H
    go_wp2_with fail
    generalize (w.alloc (.cells #[.int .i64 0, .int .i64 0, .slice none 0 0, .slice none 0 0] 28)).alloc (.cells #[.int .i64 0, .int .i64 0, .slice none 0 0, .slice none 0 0] 28) = w1 at hs2 kb kr hb0 ⊢
    have hsz1 : w.heap.size + 1 < w1.heap.size := kb.lt
    cases hgt : getT bs with
    | none =>
      have HG := hide hgt
      have HNO : Hid (r = none) := by rw [Hid, ← hr.out]; unfold parseH; rw [hgt]
      clear hgt hr
      refine (wire_Get_no _ hs2 hnc hc HG.out).mono ?_
      rintro e w2 ⟨rfl, hb2⟩
      have kr2 := kr.later hb2
      have hbb := hb0.trans (hb2.mono (by omega))
      clear hb2 hb0 kr kb hs2
      go_wp2_with fail
      go_step3
      repeat (first | refine Exit.then_goto ?_ | refine Exit.inBlock_goto ?_)
      exact Exit.jump_goto ⟨_, _, _, _, _, _, _, _, _, _, _, _, _, _, _, _, _, _, _, _, _, _, _, _, _, _, _, _, _, _, _, _, _, _, _, _, _, _, _, _, _, _, _, _, _, _, _, _, _, _, _, _, _, _, _, _, _, _, _, _, _, _, _, _, rfl, kr2, hbb, HNO⟩
    | some ls =>
      have HG := hide hgt
      obtain ⟨hbs, hbl, hdom⟩ := getL_back codecT hgt
      have hcount := put_count (e := encT) codecT.pos ls
      rw [← hbs] at hcount
      have HRD : Hid (rdH ls = r) := by rw [Hid, ← hr.out]; unfold parseH; rw [hgt]
      obtain ⟨L, HLL⟩ : ∃ L, Hid (ls.length = L) := ⟨_, rfl⟩
      have hLX : L ≤ 1048576 := by have := HLL.out; omega
      have HDOM := hide hdom
      clear hgt hbs hbl hdom hcount hr
      refine (wire_Get_yes _ hs2 hnc hc HG.out).mono ?_
      rintro e w2 ⟨v2, rfl, hown2, hb2⟩
      rw [HLL.out] at hown2
      obtain ⟨A2, c2, rfl, hc2, hc2m⟩ := own_slice_cap hown2
      unfold maxLen at hc2m
      have kb2 := kb.later hb2
      have kr2 := kr.later hb2
      have hbb := hb0.trans (hb2.mono (by omega))
      have hsz2 := hbb.size
      have hsz12 := hb2.size
      clear kb kr hb0 hb2 hs2
      by_cases h5 : L = 5
      case neg =>
        have HNO : Hid (r = none) := by rw [Hid, ← HRD.out]; exact rdH_len (by rw [HLL.out]; exact h5)
        have hd5 : ((L : Int) != 5) = true := by simp only [bne_iff_ne, ne_eq]; omega
        clear h5
        go_wp2_with fail
        go_step3
        repeat (first | refine Exit.then_goto ?_ | refine Exit.inBlock_goto ?_)
        exact Exit.jump_goto ⟨_, _, _, _, _, _, _, _, _, _, _, _, _, _, _, _, _, _, _, _, _, _, _, _, _, _, _, _, _, _, _, _, _, _, _, _, _, _, _, _, _, _, _, _, _, _, _, _, _, _, _, _, _, _, _, _, _, _, _, _, _, _, _, _, rfl, kr2, hbb, HNO⟩
      subst h5
      obtain ⟨g2, cap2, hv2, hg2, hg2l⟩ := hown2.form (by omega)
      injection hv2 with hA2 _ hcap
      subst hA2
      have hs4 := Sl.of_own hown2
      have at_ : ∀ (k : Nat) s, ls[k]? = some s → w2.cell? ⟨g2, k, none⟩ = some (.string s) := fun k s h => by
        have hk := lt_of_at h
        rw [HLL.out] at hk
        rw [hown2.cellAt k (by omega), strs, List.getElem?_map, h]; rfl
      obtain ⟨x0, x1, x2, x3, x4, rfl⟩ : ∃ x0 x1 x2 x3 x4, ls = [x0, x1, x2, x3, x4] := by
        have hl := HLL.out
        match ls, hl with
        | [a, b, c, d, e], _ => exact ⟨a, b, c, d, e, rfl⟩
      have q0 : w2.cell? ⟨g2, 0, none⟩ = some (.string x0) := at_ 0 x0 rfl
      have HQ3 := hide (at_ 3 x3 rfl)
      have HQ4 := hide (at_ 4 x4 rfl)
      clear at_ hown2
      by_cases hx : x0 = headerW
      case neg =>
        have HNO : Hid (r = none) := by rw [Hid, ← HRD.out]; exact rdH_word hx
        have hxe : (x0.toList == [104, 101, 97, 100, 101, 114]) = false := by have := toList_ne hx; rwa [headerW_list] at this
        clear hx hs4
        go_wp2_with fail
        go_step3
        repeat (first | refine Exit.then_goto ?_ | refine Exit.inBlock_goto ?_)
        exact Exit.jump_goto ⟨_, _, _, _, _, _, _, _, _, _, _, _, _, _, _, _, _, _, _, _, _, _, _, _, _, _, _, _, _, _, _, _, _, _, _, _, _, _, _, _, _, _, _, _, _, _, _, _, _, _, _, _, _, _, _, _, _, _, _, _, _, _, _, _, rfl, kr2, hbb, HNO⟩
      subst hx
      unfold headerW at q0
      go_wp2_with fail
      have hsA := (hs4.drop_ (k := 1) (by omega)).alloc (.cells #[.pointer (some ⟨w.heap.size + 1, 0, none⟩), .pointer (some ⟨w.heap.size + 1, 1, none⟩)] 56)
      rw [strs_drop, Nat.zero_add] at hsA
      have hp := Sl.of_blk (size := 1) (n := 2) (Blk.new w2 56 #[.pointer (some ⟨w.heap.size + 1, 0, none⟩), .pointer (some ⟨w.heap.size + 1, 1, none⟩)]) rfl
      have hw2 : w1.heap.size ≤ g2 := hg2
      obtain ⟨zs, HZS⟩ : ∃ zs, Hid (wholes [x1, x2] = zs) := ⟨_, rfl⟩
      refine (wire_Read (os := [0, 1]) (g := w.heap.size + 1) (r := zs) _ hsA hp (kb2.alloc _) (by omega) (by omega) (fun b off _ e => by injection e with e; injection e; omega) (fun b off _ e => by injection e with e; injection e; omega) (by simp) (fun s hs => HDOM.out s (List.mem_of_mem_drop hs)) HZS).mono ?_
      rintro e w3 ⟨rfl, hgr3, HB3⟩
      have hne : g2 ≠ w.heap.size + 1 := by omega
      have q3 : w3.cell? ⟨g2, 3, none⟩ = some (.string x3) := cell_grown2 (g := w.heap.size + 1) hgr3 (cell_later (below_alloc' w2 _) HQ3.out) hne
      have q4 : w3.cell? ⟨g2, 4, none⟩ = some (.string x4) := cell_grown2 (g := w.heap.size + 1) hgr3 (cell_later (below_alloc' w2 _) HQ4.out) hne
      have kr3 := (kr2.alloc (.cells #[.pointer (some ⟨w.heap.size + 1, 0, none⟩), .pointer (some ⟨w.heap.size + 1, 1, none⟩)] 56)).grown hgr3 (by intro e; injection e with e; omega)
      have hb3 : Below w.heap.size w w3 := below_of_grown (hbb.alloc (by omega) _) hgr3 (by simp; omega) (by omega)
      have hz3 := hgr3.size
      simp at hz3
      cases zs with
      | none =>
        have HNO : Hid (r = none) := by rw [Hid, ← HRD.out]; exact rdH_bad (Or.inl HZS.out)
        clear HB3 hgr3 hp hsA hbb kb2 kr2 hs4 q0 q3 q4
        go_wp2_with fail
        go_step3
        repeat (first | refine Exit.then_goto ?_ | refine Exit.inBlock_goto ?_)
        exact Exit.jump_goto ⟨_, _, _, _, _, _, _, _, _, _, _, _, _, _, _, _, _, _, _, _, _, _, _, _, _, _, _, _, _, _, _, _, _, _, _, _, _, _, _, _, _, _, _, _, _, _, _, _, _, _, _, _, _, _, _, _, _, _, _, _, _, _, _, _, rfl, kr3, hb3, HNO⟩
      | some zz =>
        obtain ⟨a, ra, rfl⟩ : ∃ a ra, zz = [a, ra] := by
          have hl := wholes_len _ _ HZS.out
          match zz, hl with
          | [a, b], _ => exact ⟨a, b, rfl⟩
        have kb3 : Blk w3 (w.heap.size + 1) 28 #[.int .i64 a, .int .i64 ra, .slice none 0 0, .slice none 0 0] := HB3.out _ rfl
        clear HB3 hgr3 hp hsA hbb kb2 kr2 hs4 q0
        have d3 := HDOM.out x3 (by simp)
        have d4 := HDOM.out x4 (by simp)
        obtain ⟨cap3, w4, HCV, s4, hb4, hc4, hc4m⟩ := conv_bytes2 (P := Try.prog) w3 9 33 5 x3 Try.underlying9 Try.underlying33 Try.underlying5 d3
        obtain ⟨o3, HO3⟩ : ∃ o, Hid (getI x3.data.toList = o) := ⟨_, rfl⟩
        obtain ⟨o4, HO4⟩ : ∃ o, Hid (getI x4.data.toList = o) := ⟨_, rfl⟩
        have hz4 := hb4.size
        go_wp2_with fail
        refine (wire_GetNums_any _ s4 hc4 hc4m HO3).mono ?_
        rintro e w5 ⟨⟨A5, n5, c5, E5, rfl, HE5⟩, hb5⟩
        have hz5 := hb5.size
        have q4' := cell_later hb5 (cell_later hb4 q4)
        have kb5 := (kb3.later hb4).later hb5
        have kr5 := (kr3.later hb4).later hb5
        have hbw5 := below_then (below_then hb3 hb4) hb5
        have HE5' : Hid (∀ l, o3 = some l → E5 = 0 ∧ w5.ownsRow w.heap.size 3 1 (.slice A5 n5 c5) l.length (ints l)) := fun l h => by
          subst h; exact ⟨HE5.1, own_mono HE5.2 (by omega)⟩
        have HN5 : Hid (o3 = none → E5 = 1) := fun h => by subst h; exact HE5
        clear HE5 HCV s4 hb4 hb5 hb3 kb3 kr3 q3 q4
        have b2 : w5.cell? ⟨w.heap.size + 1, 2, none⟩ = some (.slice none 0 0) := kb5.at_ rfl
        have f2 := kb5.frozen 2
        have q5 : (w5.setCell ⟨w.heap.size + 1, 2, none⟩ (.slice A5 n5 c5)).cell? ⟨g2, 4, none⟩ = some (.string x4) := cell_grown2 (grown_set w5 (w.heap.size + 1) 2 _) q4' hne
        have kb6 := kb5.set_ 2 (.slice A5 n5 c5)
        have kr6 := kr5.far (p := ⟨w.heap.size + 1, 2, none⟩) (by simp) (.slice A5 n5 c5)
        have hb6 := hbw5.setCell (p := ⟨w.heap.size + 1, 2, none⟩) (by simp) (.slice A5 n5 c5)
        have HE6 : Hid (∀ l, o3 = some l → E5 = 0 ∧ (w5.setCell ⟨w.heap.size + 1, 2, none⟩ (.slice A5 n5 c5)).ownsRow w.heap.size 3 1 (.slice A5 n5 c5) l.length (ints l)) := fun l h => ⟨(HE5'.out l h).1, (HE5'.out l h).2.kept (grown_set w5 (w.heap.size + 1) 2 _) (Or.inr (own_blk_ne (HE5'.out l h).2 kb5 (by decide)))⟩
        have KK := hide (And.intro q5 (And.intro kb6 (And.intro kr6 hb6)))
        clear q5 kb6 kr6 hb6 HE5' kb5 kr5 hbw5 q4'
        go_upto_region 6 with fail
        obtain ⟨q5, kb6, kr6, hb6⟩ := KK.out
        clear KK b2 f2
        generalize w5.setCell ⟨w.heap.size + 1, 2, none⟩ (.slice A5 n5 c5) = w6 at q5 kb6 kr6 hb6 HE6 ⊢
        obtain ⟨cap4, w7, HCV, s7, hb7, hc7, hc7m⟩ := conv_bytes2 (P := Try.prog) w6 9 33 5 x4 Try.underlying9 Try.underlying33 Try.underlying5 d4
        go_wp2_with fail
        refine (wire_GetNums_any _ s7 hc7 hc7m HO4).mono ?_
        rintro e w8 ⟨⟨A8, n8, c8, E8, rfl, HE8⟩, hb8⟩
        have hz7 := hb7.size
        have hz8 := hb8.size
        have kb8 := (kb6.later hb7).later hb8
        have kr8 := (kr6.later hb7).later hb8
        have hbw8 := below_then (below_then hb6 hb7) hb8
        have hb68 := below_then hb7 hb8
        have b3 : w8.cell? ⟨w.heap.size + 1, 3, none⟩ = some (.slice none 0 0) := kb8.at_ rfl
        have f3 := kb8.frozen 3
        have kb9 := kb8.set_ 3 (.slice A8 n8 c8)
        have kr9 := kr8.far (p := ⟨w.heap.size + 1, 3, none⟩) (by simp) (.slice A8 n8 c8)
        have hb9 := hbw8.setCell (p := ⟨w.heap.size + 1, 3, none⟩) (by simp) (.slice A8 n8 c8)
        have HE9 : Hid (∀ l m, o3 = some l → o4 = some m → E5 = 0 ∧ E8 = 0 ∧ (w8.setCell ⟨w.heap.size + 1, 3, none⟩ (.slice A8 n8 c8)).ownsRow w.heap.size 3 1 (.slice A5 n5 c5) l.length (ints l) ∧ (w8.setCell ⟨w.heap.size + 1, 3, none⟩ (.slice A8 n8 c8)).ownsRow w.heap.size 3 1 (.slice A8 n8 c8) m.length (ints m) ∧ ((Value.slice A5 n5 c5).ownBlock = none ∨ (Value.slice A5 n5 c5).ownBlock ≠ (Value.slice A8 n8 c8).ownBlock)) := fun l m hl hm => by
          obtain ⟨e1, o1⟩ := HE6.out l hl
          subst hm
          obtain ⟨e2, o2⟩ := HE8
          have o1' := own_later o1 hb68
          refine ⟨e1, e2, o1'.kept (grown_set w8 (w.heap.size + 1) 3 _) (Or.inr (own_blk_ne o1' kb8 (by decide))), own_mono (o2.kept (grown_set w8 (w.heap.size + 1) 3 _) (Or.inr (own_blk_ne o2 kb8 (by decide)))) (by have := hb6.size; omega), ?_⟩
          rcases hq : (Value.slice A5 n5 c5).ownBlock with _ | g
          · exact Or.inl rfl
          · refine Or.inr fun e => ?_
            have h1 := (o1.lt g hq).2
            have h2 := (o2.lt g e.symm).1
            omega
        have HN8 : Hid (o4 = none → E8 = 1) := fun h => by subst h; exact HE8
        have KK := hide (And.intro kb9 (And.intro kr9 hb9))
        clear HE6 HE8 HCV s7 hb7 hb8 kb6 kr6 hb6 q5 hb68 kb8 kr8 hbw8 kb9 kr9 hb9
        go_upto_region 7 with fail
        obtain ⟨kb9, kr9, hb9⟩ := KK.out
        clear KK b3 f3
        generalize w8.setCell ⟨w.heap.size + 1, 3, none⟩ (.slice A8 n8 c8) = w9 at kb9 kr9 hb9 HE9 ⊢
        cases o3 with
        | none =>
          obtain rfl := HN5.out rfl
          have HNO : Hid (r = none) := by rw [Hid, ← HRD.out]; exact rdH_bad (Or.inr (Or.inl HO3.out))
          go_wp2_with fail
          go_step3
          rename_i hk
          exact hk _ _ (H _ _ ⟨_, _, _, _, _, _, _, _, _, _, _, _, _, _, _, _, _, _, _, _, _, _, _, _, _, _, _, _, _, _, _, _, _, _, _, _, _, _, _, _, _, _, _, _, _, _, _, _, _, _, _, _, _, _, _, _, _, _, _, _, _, _, _, _, rfl, kr9, hb9, HNO⟩)
        | some l =>
          cases o4 with
          | none =>
            obtain rfl := HN8.out rfl
            have HNO : Hid (r = none) := by rw [Hid, ← HRD.out]; exact rdH_bad (Or.inr (Or.inr HO4.out))
            go_wp2_with fail
            all_goals
              go_step3
              rename_i hk
              exact hk _ _ (H _ _ ⟨_, _, _, _, _, _, _, _, _, _, _, _, _, _, _, _, _, _, _, _, _, _, _, _, _, _, _, _, _, _, _, _, _, _, _, _, _, _, _, _, _, _, _, _, _, _, _, _, _, _, _, _, _, _, _, _, _, _, _, _, _, _, _, _, rfl, kr9, hb9, HNO⟩)
          | some m =>
            obtain ⟨rfl, rfl, o5, o8, hsep⟩ := HE9.out l m rfl rfl
            have h5 : n5 = l.length := by obtain ⟨A5', c5', h5⟩ := own_slice o5; injection h5
            have h8 : n8 = m.length := by obtain ⟨A8', c8', h8⟩ := own_slice o8; injection h8
            subst h5
            subst h8
            have s5 := Sl.of_own o5
            have s8 := Sl.of_own o8
            have m5 : l.length ≤ 9223372036854775807 := by obtain ⟨_, _, _, m5, m5'⟩ := own_slice_cap o5; unfold maxLen at m5'; omega
            have m8 : m.length ≤ 9223372036854775807 := by obtain ⟨_, _, _, m5, m5'⟩ := own_slice_cap o8; unfold maxLen at m5'; omega
            obtain ⟨f, HF⟩ : ∃ f, Hid (formH 16 ⟨a, ra, l, m⟩ = f) := ⟨_, rfl⟩
            have HRG : Hid (r = if f = true then some ⟨a, ra, l, m⟩ else none) := by rw [Hid, ← HRD.out, rdH_good HZS.out HO3.out HO4.out, HF.out]
            have HC := hide (header_form (c1 := c5) (c2 := c8) 16 ⟨a, ra, l, m⟩ w9 s5 s8 m5 m8 HF)
            unfold hdV at HC
            have c0 : w9.cell? ⟨w.heap.size + 1, 0, none⟩ = some (.int .i64 a) := kb9.at_ rfl
            have c1 : w9.cell? ⟨w.heap.size + 1, 1, none⟩ = some (.int .i64 ra) := kb9.at_ rfl
            have c2' : w9.cell? ⟨w.heap.size + 1, 2, none⟩ = some (.slice A5 l.length c5) := kb9.at_ rfl
            have c3 : w9.cell? ⟨w.heap.size + 1, 3, none⟩ = some (.slice A8 m.length c8) := kb9.at_ rfl
            clear s5 s8 HE9
            go_wp2_with fail
            refine HC.out.mono ?_
            rintro e w10 ⟨rfl, hb10'⟩
            have kb10 := kb9.later hb10'
            have kr10 := kr9.later hb10'
            have hb10 := below_then hb9 hb10'
            have o5' := own_later o5 hb10'
            have o8' := own_later o8 hb10'
            clear hb10' kb9 kr9 hb9 o5 o8 c0 c1 c2' c3 HC
            cases f with
            | false =>
              have HNO : Hid (r = none) := by rw [Hid, HRG.out]; rfl
              go_wp2_with fail
              go_step3
              rename_i hk
              exact hk _ _ (H _ _ ⟨_, _, _, _, _, _, _, _, _, _, _, _, _, _, _, _, _, _, _, _, _, _, _, _, _, _, _, _, _, _, _, _, _, _, _, _, _, _, _, _, _, _, _, _, _, _, _, _, _, _, _, _, _, _, _, _, _, _, _, _, _, _, _, _, rfl, kr10, hb10, HNO⟩)
            | true =>
              have HYES : Hid (r = some ⟨a, ra, l, m⟩) := by rw [Hid, HRG.out]; rfl
              have c0 : w10.cell? ⟨w.heap.size + 1, 0, none⟩ = some (.int .i64 a) := kb10.at_ rfl
              have c1 : w10.cell? ⟨w.heap.size + 1, 1, none⟩ = some (.int .i64 ra) := kb10.at_ rfl
              have c2' : w10.cell? ⟨w.heap.size + 1, 2, none⟩ = some (.slice A5 l.length c5) := kb10.at_ rfl
              have c3 : w10.cell? ⟨w.heap.size + 1, 3, none⟩ = some (.slice A8 m.length c8) := kb10.at_ rfl
              have r0 : w10.cell? ⟨w.heap.size, 0, none⟩ = some (.int .i64 0) := kr10.at_ rfl
              have r1 : w10.cell? ⟨w.heap.size, 1, none⟩ = some (.int .i64 0) := kr10.at_ rfl
              have r2 : w10.cell? ⟨w.heap.size, 2, none⟩ = some (.slice none 0 0) := kr10.at_ rfl
              have r3 : w10.cell? ⟨w.heap.size, 3, none⟩ = some (.slice none 0 0) := kr10.at_ rfl
              have f0 := kr10.frozen 0
              have f1 := kr10.frozen 1
              have f2 := kr10.frozen 2
              have f3 := kr10.frozen 3
              go_wp2_with fail
              try rw [Exit.jump_ret]
              have n5 := own_blk_ne o5' kr10 (by decide)
              have n8 := own_blk_ne o8' kr10 (by decide)
              have KRF := (((kr10.set_ 0 (.int .i64 a)).set_ 1 (.int .i64 ra)).set_ 2 (.slice A5 l.length c5)).set_ 3 (.slice A8 m.length c8)
              have OW5 := (((o5'.kept (grown_set w10 w.heap.size 0 (.int .i64 a)) (Or.inr n5)).kept (grown_set _ w.heap.size 1 (.int .i64 ra)) (Or.inr n5)).kept (grown_set _ w.heap.size 2 (.slice A5 l.length c5)) (Or.inr n5)).kept (grown_set _ w.heap.size 3 (.slice A8 m.length c8)) (Or.inr n5)
              have OW8 := (((o8'.kept (grown_set w10 w.heap.size 0 (.int .i64 a)) (Or.inr n8)).kept (grown_set _ w.heap.size 1 (.int .i64 ra)) (Or.inr n8)).kept (grown_set _ w.heap.size 2 (.slice A5 l.length c5)) (Or.inr n8)).kept (grown_set _ w.heap.size 3 (.slice A8 m.length c8)) (Or.inr n8)
              have HBF := (((hb10.setCell (p := ⟨w.heap.size, 0, none⟩) (Nat.le_refl _) (.int .i64 a)).setCell (p := ⟨w.heap.size, 1, none⟩) (Nat.le_refl _) (.int .i64 ra)).setCell (p := ⟨w.heap.size, 2, none⟩) (Nat.le_refl _) (.slice A5 l.length c5)).setCell (p := ⟨w.heap.size, 3, none⟩) (Nat.le_refl _) (.slice A8 m.length c8)
              clear c0 c1 c2' c3 r0 r1 r2 r3 f0 f1 f2 f3 kb10 kr10 hb10 o5' o8' n5 n8
              generalize (((w10.setCell ⟨w.heap.size, 0, none⟩ (.int .i64 a)).setCell ⟨w.heap.size, 1, none⟩ (.int .i64 ra)).setCell ⟨w.heap.size, 2, none⟩ (.slice A5 l.length c5)).setCell ⟨w.heap.size, 3, none⟩ (.slice A8 m.length c8) = wf at KRF OW5 OW8 HBF ⊢
              have r0 : wf.cell? ⟨w.heap.size, 0, none⟩ = some (.int .i64 a) := KRF.at_ rfl
              have r1 : wf.cell? ⟨w.heap.size, 1, none⟩ = some (.int .i64 ra) := KRF.at_ rfl
              have r2 : wf.cell? ⟨w.heap.size, 2, none⟩ = some (.slice A5 l.length c5) := KRF.at_ rfl
              have r3 : wf.cell? ⟨w.heap.size, 3, none⟩ = some (.slice A8 m.length c8) := KRF.at_ rfl
              exact bodyPost_ret (v := .tuple #[.agg #[.int .i64 a, .int .i64 ra, .slice A5 l.length c5, .slice A8 m.length c8], .int .i64 0]) (by simp [results, Try.results30, go_sem, r0, r1, r2, r3]) rfl (EndH.yes HYES.out OW5 OW8 hsep HBF)
end Go.Proofs.Ytmnogefpphonlaa
