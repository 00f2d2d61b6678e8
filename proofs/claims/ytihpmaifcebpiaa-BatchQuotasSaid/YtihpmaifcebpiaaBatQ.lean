/-
  Contracts: bytes that are no batch: the program's.
-/
import Derived.Test.YtihpmaifcebpiaaGr06
set_option linter.unusedVariables false
set_option linter.unusedSimpArgs false
namespace Go.Proofs.Ytihpmaifcebpiaa
open Go.RowKit
attribute [local go_sem ↓] Go.wp_at_zero Go.wp_at_succ

def zb3 : Array Value := #[.int .i64 0, .int .i64 0, .slice none 0 0]
theorem batchW_list : batchW.toList = [98, 97, 116, 99, 104] := by rw [ByteArray.toList_eq]; rfl
/-- Why texts are no batch. -/
theorem rdB_none {ls : List ByteArray} (h : rdB ls = none) : ls.length < 3 ∨ ls.length % 4 ≠ 3 ∨ (3 ≤ ls.length ∧ ls.length % 4 = 3 ∧ ((∃ x r, ls = x :: r ∧ x ≠ batchW) ∨ (∃ r, ls = batchW :: r ∧ (wholes (r.take 2) = none ∨ ∃ a b, wholes (r.take 2) = some [a, b] ∧ ∀ l, rdTxs (r.drop 2) = some l → mayB a b l = false)))) := by
  rcases Nat.lt_or_ge ls.length 3 with h3 | h3
  · exact .inl h3
  · by_cases h4 : ls.length % 4 = 3
    · refine .inr (.inr ⟨h3, h4, ?_⟩)
      match ls, h3, h with
      | x :: y :: z :: r, _, h =>
        by_cases hx : x = batchW
        · refine .inr ⟨y :: z :: r, by rw [hx], ?_⟩
          rw [rdB, if_pos hx] at h
          show wholes [y, z] = none ∨ _
          cases hy : wholeN y with
          | none => left; rw [wholes, hy]
          | some a =>
            cases hz : wholeN z with
            | none => left; rw [wholes, wholes, hz]; cases wholeN y <;> rfl
            | some b =>
              right
              refine ⟨a, b, ?_, fun l hl => ?_⟩
              · show wholes [y, z] = _
                rw [wholes, wholes, wholes, hy, hz]
              · have hl' : rdTxs r = some l := hl
                rw [hy, hz, hl'] at h
                simp only at h
                by_cases hm : mayB a b l = true
                · rw [if_pos hm] at h; cases h
                · simpa using hm
        · exact .inl ⟨x, _, rfl, hx⟩
    · exact .inr (.inl h4)
/-- What holds at each round's head: what is left to read, what has been read. -/
def ParseRelN (w3 : World) (gb g2 : Nat) (a b : Int) (s : Value) (wr : World) : Prop :=
  ∃ (o m c' : Nat) (v : Value) (rs : List ByteArray) (l0 : List TxD), s = .slice (some ⟨g2, o, none⟩) (m * 4) c' ∧ m * 4 ≤ c' ∧ c' ≤ 9223372036854775807 ∧ m ≤ 300000 ∧ l0.length + m ≤ 300000 ∧ Sl w3 1 (some ⟨g2, o, none⟩) (m * 4) (strs rs) ∧ (∀ x ∈ rs, x.size ≤ 9223372036854775807) ∧ TxZ l0 ∧
    (∀ l', rdTxs rs = some l' → mayB a b (l0 ++ l') = false) ∧ w3.grownBy wr (some gb) ∧ Blk wr gb 26 #[.int .i64 a, .int .i64 b, v] ∧ wr.ownsRow w3.heap.size 67 4 v l0.length (txsC l0)
set_option maxRecDepth 100000 in
set_option maxHeartbeats 8000000 in
theorem batch_Parse_no {A : Option Addr} {n c : Nat} {bs : List UInt8} (w : World) (hs : Sl w 1 A n (bytes8 bs)) (hnc : n ≤ c) (hc : c ≤ 9223372036854775807) (hg : parseB bs = none) :
    Calls Try.prog 23 #[.slice A n c] w fun e w' => e = .returned (.tuple #[.agg #[.int .i64 0, .int .i64 0, .slice none 0 0], .int .i64 1]) ∧ Below w.heap.size w w' := by
  obtain ⟨j0, hj, hj0, hj1, hj2⟩ := info_parts Try.infoTx
  have hs2 := (hs.alloc (.cells #[.int .i64 0, .int .i64 0, .slice none 0 0] 26)).alloc (.cells #[.int .i64 0, .int .i64 0, .slice none 0 0] 26)
  have kb := Blk.new2 w (.cells #[.int .i64 0, .int .i64 0, .slice none 0 0] 26) 26 #[.int .i64 0, .int .i64 0, .slice none 0 0]
  have kr := (Blk.new w 26 #[.int .i64 0, .int .i64 0, .slice none 0 0]).alloc (.cells #[.int .i64 0, .int .i64 0, .slice none 0 0] 26)
  have hb0 : Below w.heap.size w ((w.alloc (.cells #[.int .i64 0, .int .i64 0, .slice none 0 0] 26)).alloc (.cells #[.int .i64 0, .int .i64 0, .slice none 0 0] 26)) := (below_alloc w _).alloc (by simp) _
  have HG0 := hide hg
  clear hs hg
  go_enter Try.func23, Try.ntmps23
  go_wp2_with fail
  refine scope_loop 0 (fun a w' => ∃ (u0 u1 u3 u4 u5 u6 u7 u8 u9 u10 u11 u12 u13 u14 u15 u16 u17 u18 u19 u20 u21 u22 u23 u24 u25 u26 u27 u28 u29 u30 u31 u32 u33 u34 u35 u36 u37 u38 u39 u40 u41 u42 u43 u44 u45 u46 u47 u48 u49 u50 u51 u52 u53 u54 u55 u56 u57 u58 u59 u60 u61 u62 u63 u64 u65 u66 u67 u68 u69 u70 : Value), a = { tmps := #[u0, u1, .pointer (some ⟨w.heap.size, 0, none⟩), u3, u4, u5, u6, u7, u8, u9, u10, u11, u12, u13, u14, u15, u16, u17, u18, u19, u20, u21, u22, u23, u24, u25, u26, u27, u28, u29, u30, u31, u32, u33, u34, u35, u36, u37, u38, u39, u40, u41, u42, u43, u44, u45, u46, u47, u48, u49, u50, u51, u52, u53, u54, u55, u56, u57, u58, u59, u60, u61, u62, u63, u64, u65, u66, u67, u68, u69, u70], defers := [] } ∧ Blk w' w.heap.size 26 #[.int .i64 0, .int .i64 0, .slice none 0 0] ∧ Below w.heap.size w w') (fun _ _ => 0) rfl ?_ ?_
  · rintro a w' ⟨u0, u1, u3, u4, u5, u6, u7, u8, u9, u10, u11, u12, u13, u14, u15, u16, u17, u18, u19, u20, u21, u22, u23, u24, u25, u26, u27, u28, u29, u30, u31, u32, u33, u34, u35, u36, u37, u38, u39, u40, u41, u42, u43, u44, u45, u46, u47, u48, u49, u50, u51, u52, u53, u54, u55, u56, u57, u58, u59, u60, u61, u62, u63, u64, u65, u66, u67, u68, u69, u70, rfl, kr', hb'⟩
    clear kb kr hb0 hs2
    have r0 : w'.cell? ⟨w.heap.size, 0, none⟩ = some (.int .i64 0) := kr'.at_ rfl
    have r1 : w'.cell? ⟨w.heap.size, 1, none⟩ = some (.int .i64 0) := kr'.at_ rfl
    have r2 : w'.cell? ⟨w.heap.size, 2, none⟩ = some (.slice none 0 0) := kr'.at_ rfl
    have f0 := kr'.frozen 0
    have f1 := kr'.frozen 1
    have f2 := kr'.frozen 2
    go_wp2_with fail
    try rw [Exit.jump_ret]
    have KRF : Blk (((w'.setCell ⟨w.heap.size, 0, none⟩ (.int .i64 0)).setCell ⟨w.heap.size, 1, none⟩ (.int .i64 0)).setCell ⟨w.heap.size, 2, none⟩ (.slice none 0 0)) w.heap.size 26 #[.int .i64 0, .int .i64 0, .slice none 0 0] := ((kr'.set_ 0 _).set_ 1 _).set_ 2 _
    have HBF := ((hb'.setCell (p := ⟨w.heap.size, 0, none⟩) (Nat.le_refl _) (.int .i64 0)).setCell (p := ⟨w.heap.size, 1, none⟩) (Nat.le_refl _) (.int .i64 0)).setCell (p := ⟨w.heap.size, 2, none⟩) (Nat.le_refl _) (.slice none 0 0)
    clear r0 r1 r2 f0 f1 f2 kr' hb'
    generalize ((w'.setCell ⟨w.heap.size, 0, none⟩ (.int .i64 0)).setCell ⟨w.heap.size, 1, none⟩ (.int .i64 0)).setCell ⟨w.heap.size, 2, none⟩ (.slice none 0 0) = wf at KRF HBF ⊢
    have r0 : wf.cell? ⟨w.heap.size, 0, none⟩ = some (.int .i64 0) := KRF.at_ rfl
    have r1 : wf.cell? ⟨w.heap.size, 1, none⟩ = some (.int .i64 0) := KRF.at_ rfl
    have r2 : wf.cell? ⟨w.heap.size, 2, none⟩ = some (.slice none 0 0) := KRF.at_ rfl
    exact bodyPost_ret (v := .tuple #[.agg #[.int .i64 0, .int .i64 0, .slice none 0 0], .int .i64 1]) (by simp [results, Try.results23, go_sem, r0, r1, r2]) rfl ⟨rfl, HBF⟩
  · intro H
    go_wp2_with fail
    generalize (w.alloc (.cells #[.int .i64 0, .int .i64 0, .slice none 0 0] 26)).alloc (.cells #[.int .i64 0, .int .i64 0, .slice none 0 0] 26) = w1 at hs2 kb kr hb0 ⊢
    have hsz1 : w.heap.size + 1 < w1.heap.size := kb.lt
    cases hgt : getT bs with
    | none =>
      have HG := hide hgt
      clear hgt
      refine (wire_Get_no _ hs2 hnc hc HG.out).mono ?_
      rintro e w2 ⟨rfl, hb2⟩
      have kr2 := kr.later hb2
      have hbb := hb0.trans (hb2.mono (by omega))
      clear hb2 hb0 kr kb hs2
      go_wp2_with fail
      go_step3
      repeat (first | refine Exit.then_goto ?_ | refine Exit.inBlock_goto ?_)
      exact Exit.jump_goto ⟨_, _, _, _, _, _, _, _, _, _, _, _, _, _, _, _, _, _, _, _, _, _, _, _, _, _, _, _, _, _, _, _, _, _, _, _, _, _, _, _, _, _, _, _, _, _, _, _, _, _, _, _, _, _, _, _, _, _, _, _, _, _, _, _, _, _, _, _, _, _, rfl, kr2, hbb⟩
    | some ls =>
      have HG := hide hgt
      obtain ⟨hbs, hbl, hdom⟩ := getL_back codecT hgt
      have hcount := put_count (e := encT) codecT.pos ls
      rw [← hbs] at hcount
      have hrd : rdB ls = none := by have := HG0.out; unfold parseB at this; rw [hgt] at this; exact this
      have hwhy := rdB_none hrd
      obtain ⟨L, HLL⟩ : ∃ L, Hid (ls.length = L) := ⟨_, rfl⟩
      have hLX : L ≤ 1048576 := by have := HLL.out; omega
      have HDOM := hide hdom
      clear hgt hbs hbl hdom hcount hrd
      refine (wire_Get_yes _ hs2 hnc hc HG.out).mono ?_
      rintro e w2 ⟨v2, rfl, hown2, hb2⟩
      rw [HLL.out] at hown2 hwhy
      obtain ⟨A2, c2, rfl, hc2, hc2m⟩ := own_slice_cap hown2
      unfold maxLen at hc2m
      have kb2 := kb.later hb2
      have kr2 := kr.later hb2
      have hbb := hb0.trans (hb2.mono (by omega))
      have hsz2 := hbb.size
      have hsz12 := hb2.size
      clear kb kr hb0 hb2 hs2
      rcases hwhy with h3 | h4 | ⟨h3, h4, hwhy⟩
      · have hd3 : decide ((L : Int) < 3) = true := by rw [decide_eq_true_eq]; omega
        clear h3
        go_wp2_with fail
        go_step3
        repeat (first | refine Exit.then_goto ?_ | refine Exit.inBlock_goto ?_)
        exact Exit.jump_goto ⟨_, _, _, _, _, _, _, _, _, _, _, _, _, _, _, _, _, _, _, _, _, _, _, _, _, _, _, _, _, _, _, _, _, _, _, _, _, _, _, _, _, _, _, _, _, _, _, _, _, _, _, _, _, _, _, _, _, _, _, _, _, _, _, _, _, _, _, _, _, _, rfl, kr2, hbb⟩
      · have hd4 : ((L : Int) % 4 != 3) = true := by simp only [bne_iff_ne, ne_eq]; omega
        clear h4
        go_wp2_with fail
        all_goals
          go_step3
          repeat (first | refine Exit.then_goto ?_ | refine Exit.inBlock_goto ?_)
          exact Exit.jump_goto ⟨_, _, _, _, _, _, _, _, _, _, _, _, _, _, _, _, _, _, _, _, _, _, _, _, _, _, _, _, _, _, _, _, _, _, _, _, _, _, _, _, _, _, _, _, _, _, _, _, _, _, _, _, _, _, _, _, _, _, _, _, _, _, _, _, _, _, _, _, _, _, rfl, kr2, hbb⟩
      · have hd3 : decide ((L : Int) < 3) = false := by rw [decide_eq_false_iff_not]; omega
        have hd4 : ((L : Int) % 4 != 3) = false := by rw [bne_eq_false_iff_eq]; omega
        obtain ⟨g2, cap2, hv2, hg2, hg2l⟩ := hown2.form (by omega)
        injection hv2 with hA2 _ hcap
        subst hA2
        have hs4 := Sl.of_own hown2
        have HL4 := hide h4
        rcases hwhy with ⟨x, r, rfl, hx⟩ | ⟨r, rfl, hwhy⟩
        · have q0 : w2.cell? ⟨g2, 0, none⟩ = some (.string x) := by
            have := hown2.cellAt 0 (by omega)
            rw [this]; rfl
          have hxe : (x.toList == [98, 97, 116, 99, 104]) = false := by have := toList_ne hx; rwa [batchW_list] at this
          clear hown2 hx h4
          go_wp2_with fail
          go_step3
          repeat (first | refine Exit.then_goto ?_ | refine Exit.inBlock_goto ?_)
          exact Exit.jump_goto ⟨_, _, _, _, _, _, _, _, _, _, _, _, _, _, _, _, _, _, _, _, _, _, _, _, _, _, _, _, _, _, _, _, _, _, _, _, _, _, _, _, _, _, _, _, _, _, _, _, _, _, _, _, _, _, _, _, _, _, _, _, _, _, _, _, _, _, _, _, _, _, rfl, kr2, hbb⟩
        · have q0 : w2.cell? ⟨g2, 0, none⟩ = some (.string ⟨#[98, 97, 116, 99, 104]⟩) := by
            have := hown2.cellAt 0 (by omega)
            rw [this]; rfl
          clear hown2 h4
          go_wp2_with fail
          have hsA := (hs4.drop_ (k := 1) (by omega)).alloc (.cells #[.pointer (some ⟨w.heap.size + 1, 0, none⟩), .pointer (some ⟨w.heap.size + 1, 1, none⟩)] 89)
          rw [strs_drop, Nat.zero_add] at hsA
          have hp := Sl.of_blk (size := 1) (n := 2) (Blk.new w2 89 #[.pointer (some ⟨w.heap.size + 1, 0, none⟩), .pointer (some ⟨w.heap.size + 1, 1, none⟩)]) rfl
          have hw2 : w1.heap.size ≤ g2 := hg2
          have HDR : Hid (∀ s ∈ (batchW :: r).drop 1, s.size ≤ 9223372036854775807) := fun s hs => HDOM.out s (List.mem_of_mem_drop hs)
          obtain ⟨rr, HRR⟩ : ∃ rr, Hid (wholes (((batchW :: r).drop 1).take 2) = rr) := ⟨_, rfl⟩
          have hrr : wholes (r.take 2) = rr := HRR.out
          rw [hrr] at hwhy
          have HW := hide hwhy
          clear hrr hwhy
          refine (wire_Read (os := [0, 1]) (g := w.heap.size + 1) _ hsA hp (kb2.alloc _) (by omega) (by omega) (fun b off _ e => by injection e with e; injection e; omega) (fun b off _ e => by injection e with e; injection e; omega) (by simp) HDR.out HRR).mono ?_
          rintro e w3 ⟨rfl, hgr3, HB3⟩
          have hs5 := (hs4.alloc (.cells #[.pointer (some ⟨w.heap.size + 1, 0, none⟩), .pointer (some ⟨w.heap.size + 1, 1, none⟩)] 89)).grown_ne hgr3 (fun b off _ e => by injection e with e; injection e; omega)
          have kr3 := (kr2.alloc (.cells #[.pointer (some ⟨w.heap.size + 1, 0, none⟩), .pointer (some ⟨w.heap.size + 1, 1, none⟩)] 89)).grown hgr3 (by intro e; injection e with e; omega)
          have hb3 : Below w.heap.size w w3 := below_of_grown (hbb.alloc (by omega) _) hgr3 (by simp; omega) (by omega)
          have hzz3 := hgr3.size
          simp at hzz3
          rcases HW.out with rfl | ⟨a, b, rfl, hmay⟩
          · clear HB3 hgr3 hp hsA hbb kb2 kr2 hs4 q0 hs5
            go_wp2_with fail
            all_goals
              go_step3
              repeat (first | refine Exit.then_goto ?_ | refine Exit.inBlock_goto ?_)
              exact Exit.jump_goto ⟨_, _, _, _, _, _, _, _, _, _, _, _, _, _, _, _, _, _, _, _, _, _, _, _, _, _, _, _, _, _, _, _, _, _, _, _, _, _, _, _, _, _, _, _, _, _, _, _, _, _, _, _, _, _, _, _, _, _, _, _, _, _, _, _, _, _, _, _, _, _, rfl, kr3, hb3⟩
          · have kb3 : Blk w3 (w.heap.size + 1) 26 #[.int .i64 a, .int .i64 b, .slice none 0 0] := HB3.out _ rfl
            obtain ⟨m, hm⟩ : ∃ m, L - 3 = m * 4 := ⟨(L - 3) / 4, by have := HL4.out; omega⟩
            have HM := hide hm
            have hsR : Sl w3 1 (some ⟨g2, 3, none⟩) (m * 4) (strs (r.drop 2)) := by
              have := hs5.drop_ (k := 3) (by omega)
              rw [strs_drop, Nat.zero_add, hm] at this
              exact this
            have hg2b : g2 ≠ w.heap.size + 1 := by omega
            have HMAY := hide hmay
            have HDM : Hid (∀ x ∈ r.drop 2, x.size ≤ 9223372036854775807) := fun x hx => HDOM.out x (List.mem_cons_of_mem _ (List.mem_of_mem_drop hx))
            have HKR := hide kr3
            have HB3' := hide hb3
            clear HB3 hgr3 hp hsA hbb kb2 kr2 hs4 q0 hs5 hmay hm
            go_wp2_with fail
            all_goals try rw [HM.out]
            all_goals
              go_loopw [5] (fun s wr => ParseRelN w3 (w.heap.size + 1) g2 a b s wr) (fun s _ => sliceLen s)
              case atStart =>
                have hmm := HM.out
                first
                  | exact ⟨3, m, _, _, r.drop 2, [], rfl, by omega, by omega, by omega, (by simp; omega), hsR, HDM.out, (by intro t ht; cases ht), HMAY.out, grown_refl _ _, kb3, World.ownsRow_nil _ _ _ _⟩
                  | exact ⟨0, m, _, _, r.drop 2, [], rfl, by omega, by omega, by omega, (by simp; omega), ⟨hsR.1, fun h => by omega⟩, HDM.out, (by intro t ht; cases ht), HMAY.out, grown_refl _ _, kb3, World.ownsRow_nil _ _ _ _⟩
              case round =>
                obtain ⟨o, m', c', v, rs, l0, rfl, hkc, hcm, hm3, hlm, hsk, hz, htz, hmay', hgr, hkb, hown⟩ := hrel
                obtain ⟨wo, rfl⟩ : ∃ wo : World, wo = wr := ⟨_, rfl⟩
                have HZ := hide hz
                have HTZ := hide htz
                have HMY := hide hmay'
                clear hsR kb3 hz htz hmay' kr3 hb3
                have hszo := hgr.size
                have b2 : wo.cell? ⟨w.heap.size + 1, 2, none⟩ = some v := hkb.at_ rfl
                have krw := HKR.out.grown hgr (by intro e; injection e with e; omega)
                have hbw : Below w.heap.size w wo := below_of_grown HB3'.out hgr (by omega) (by omega)
                have hrl : rs.length = m' * 4 := hsk.slen
                by_cases hlt : 0 < m'
                · obtain ⟨x, y, tk, tv, rs', rfl⟩ : ∃ x y tk tv rs', rs = x :: y :: tk :: tv :: rs' := by
                    match rs, hrl with
                    | x :: y :: tk :: tv :: rs', _ => exact ⟨x, y, tk, tv, rs', rfl⟩
                    | [], h => simp at h; omega
                    | [_], h => simp at h; omega
                    | [_, _], h => simp at h; omega
                    | [_, _, _], h => simp at h; omega
                  obtain ⟨R, HRR⟩ : ∃ R, Hid (m' * 4 = R) := ⟨_, rfl⟩
                  have hR4 : 4 ≤ R := by rw [← HRR.out]; omega
                  have hRx : R ≤ 1200000 := by rw [← HRR.out]; omega
                  rw [HRR.out] at hkc hsk ⊢
                  clear hrl
                  have hRi0 : (0 : Int) < (R : Int) := by omega
                  have hRi2 : (2 : Int) < (R : Int) := by omega
                  have hRi3 : (3 : Int) < (R : Int) := by omega
                  have hsk' := hsk.grown_ne hgr (fun b off _ e => by injection e with e; injection e; omega)
                  have q2 : wo.cell? ⟨g2, o + 2, none⟩ = some (.string tk) := hsk'.lit rfl (by omega)
                  have q3 : wo.cell? ⟨g2, o + 3, none⟩ = some (.string tv) := hsk'.lit rfl (by omega)
                  go_wp2_with fail
                  go_region_held3 (fun w' => w'.cell? ⟨g2, o + 2, none⟩ = some (.string tk) ∧ w'.cell? ⟨g2, o + 3, none⟩ = some (.string tv)) (go_keep) (fail)
                  all_goals go_wp2_with fail
                  have sx := (hsk'.alloc (.cells #[.int .i64 0, .int .i64 0, .string tk, .string tv] 67)).alloc (.cells #[.pointer (some ⟨wo.heap.size, 0, none⟩), .pointer (some ⟨wo.heap.size, 1, none⟩)] 89) |>.drew
                  have px := (Sl.of_blk (size := 1) (n := 2) (Blk.new2 wo (.cells #[.int .i64 0, .int .i64 0, .string tk, .string tv] 67) 89 #[.pointer (some ⟨wo.heap.size, 0, none⟩), .pointer (some ⟨wo.heap.size, 1, none⟩)]) rfl).drew
                  have tx := ((Blk.new wo 67 #[.int .i64 0, .int .i64 0, .string tk, .string tv]).alloc (.cells #[.pointer (some ⟨wo.heap.size, 0, none⟩), .pointer (some ⟨wo.heap.size, 1, none⟩)] 89)).drew
                  have kbx := ((hkb.alloc (.cells #[.int .i64 0, .int .i64 0, .string tk, .string tv] 67)).alloc (.cells #[.pointer (some ⟨wo.heap.size, 0, none⟩), .pointer (some ⟨wo.heap.size, 1, none⟩)] 89)).drew
                  have krx := ((krw.alloc (.cells #[.int .i64 0, .int .i64 0, .string tk, .string tv] 67)).alloc (.cells #[.pointer (some ⟨wo.heap.size, 0, none⟩), .pointer (some ⟨wo.heap.size, 1, none⟩)] 89)).drew
                  have ownx := ((hown.alloc (.cells #[.int .i64 0, .int .i64 0, .string tk, .string tv] 67)).alloc (.cells #[.pointer (some ⟨wo.heap.size, 0, none⟩), .pointer (some ⟨wo.heap.size, 1, none⟩)] 89)).drew
                  have grx := grown_drew (grown_alloc (grown_alloc hgr (.cells #[.int .i64 0, .int .i64 0, .string tk, .string tv] 67)) (.cells #[.pointer (some ⟨wo.heap.size, 0, none⟩), .pointer (some ⟨wo.heap.size, 1, none⟩)] 89))
                  have hgt : ∀ g, v.ownBlock = some g → g < wo.heap.size := fun g h => (hown.lt g h).2
                  have hgbo : w.heap.size + 1 < wo.heap.size := hkb.lt
                  generalize ((wo.alloc (.cells #[.int .i64 0, .int .i64 0, .string tk, .string tv] 67)).alloc (.cells #[.pointer (some ⟨wo.heap.size, 0, none⟩), .pointer (some ⟨wo.heap.size, 1, none⟩)] 89)).drew = wx at sx px tx kbx krx ownx grx ⊢
                  obtain ⟨zz, HR⟩ : ∃ zz, Hid (wholes ((x :: y :: tk :: tv :: rs').take 2) = zz) := ⟨_, rfl⟩
                  have hzz : wholes [x, y] = zz := HR.out
                  refine (wire_Read (os := [0, 1]) (g := wo.heap.size) _ sx px tx (by omega) (by omega) (fun b off _ e => by injection e with e; injection e; omega) (fun b off _ e => by injection e with e; injection e; omega) (by simp) HZ.out HR).mono ?_
                  rintro e w6 ⟨rfl, hgr6, HB6⟩
                  have kr6 := krx.grown hgr6 (by intro e; injection e with e; omega)
                  have gr6 := grown_new grx hgr6 hszo
                  have hb6 : Below w.heap.size w w6 := below_of_grown HB3'.out gr6 (by omega) (by omega)
                  cases zz with
                  | none =>
                    clear hzz HB6 hgr6 sx px tx kbx krx ownx grx hown hkb hgr hsk' q2 q3 b2 krw hbw hsk gr6
                    go_wp2_with fail
                    go_step3
                    repeat (first | refine Exit.then_goto ?_ | refine Exit.inBlock_goto ?_)
                    exact Exit.jump_goto ⟨_, _, _, _, _, _, _, _, _, _, _, _, _, _, _, _, _, _, _, _, _, _, _, _, _, _, _, _, _, _, _, _, _, _, _, _, _, _, _, _, _, _, _, _, _, _, _, _, _, _, _, _, _, _, _, _, _, _, _, _, _, _, _, _, _, _, _, _, _, _, rfl, kr6, hb6⟩
                  | some zs =>
                    have hlen2 := wholes_len _ _ hzz
                    obtain ⟨s, q, rfl⟩ : ∃ s q, zs = [s, q] := by
                      match zs, hlen2 with
                      | [s, q], _ => exact ⟨s, q, rfl⟩
                    have tb6 : Blk w6 wo.heap.size 67 #[.int .i64 s, .int .i64 q, .string tk, .string tv] := HB6.out _ rfl
                    have own6 := ownx.kept hgr6 (Or.inr (fun e => by have := hgt _ e; omega))
                    have kb6 := kbx.grown hgr6 (by intro e; injection e with e; omega)
                    have hz6 := gr6.size
                    obtain ⟨Av, cv, rfl⟩ := own_slice own6
                    have HMY2 : Hid (∀ l', rdTxs rs' = some l' → mayB a b ((l0 ++ [(⟨s, q, tk, tv⟩ : TxD)]) ++ l') = false) := by
                      intro l' hl'
                      have h1 : wholeN x = some s ∧ wholeN y = some q := by
                        rw [wholes, wholes, wholes] at hzz
                        cases hx : wholeN x with
                        | none => rw [hx] at hzz; simp at hzz
                        | some x' =>
                          cases hy : wholeN y with
                          | none => rw [hx, hy] at hzz; simp at hzz
                          | some y' => rw [hx, hy] at hzz; simp at hzz; rw [hzz.1, hzz.2]; exact ⟨rfl, rfl⟩
                      have h2 : rdTxs (x :: y :: tk :: tv :: rs') = some (⟨s, q, tk, tv⟩ :: l') := by rw [rdTxs, h1.1, h1.2, hl']
                      have := HMY.out _ h2
                      simpa using this
                    have HZ2 : Hid (∀ x ∈ rs', x.size ≤ 9223372036854775807) := fun z hz => HZ.out z (by simp [hz])
                    have HTZ2 : Hid (TxZ (l0 ++ [(⟨s, q, tk, tv⟩ : TxD)])) := by
                      intro t ht
                      rcases List.mem_append.1 ht with ht | ht
                      · exact HTZ.out t ht
                      · simp at ht; subst ht; exact ⟨HZ.out tk (by simp), HZ.out tv (by simp)⟩
                    have b26 : w6.cell? ⟨w.heap.size + 1, 2, none⟩ = some (.slice Av l0.length cv) := kb6.at_ rfl
                    have t0 : w6.cell? ⟨wo.heap.size, 0, none⟩ = some (.int .i64 s) := tb6.at_ rfl
                    have t1 : w6.cell? ⟨wo.heap.size, 1, none⟩ = some (.int .i64 q) := tb6.at_ rfl
                    have t2 : w6.cell? ⟨wo.heap.size, 2, none⟩ = some (.string tk) := tb6.at_ rfl
                    have t3 : w6.cell? ⟨wo.heap.size, 3, none⟩ = some (.string tv) := tb6.at_ rfl
                    clear HB6 hgr6 sx px tx kbx krx ownx grx hown hkb hgr hsk' q2 q3 b2 tb6 krw hbw hzz hlen2
                    go_wp2_with (at_builtin; refine wpList_append_any _ rfl _ _ 24 rfl w3.heap.size 67 j0 _ 4 48 Try.underlying24 hj hj0 hj1 hj2 rfl (by decide) _ _ _ rfl (own6.alloc _) _ 1 1 (txsC [(⟨s, q, tk, tv⟩ : TxD)]) rfl (Sl.of_blk (size := 4) (n := 1) (Blk.new w6 67 #[.int .i64 s, .int .i64 q, .string tk, .string tv]) rfl) (txsC_one _) (by unfold maxLen; omega) (by omega) (by simp; omega) ?_)
                    intro v8 w8 hown8 hg8
                    obtain ⟨A8, c8, rfl⟩ := own_slice hown8
                    have gr8 := grown_row (grown_alloc gr6 _) hg8 (fun g h => (own6.lt g h).1)
                    have kb8 := (kb6.alloc _).grown hg8 (Ne.symm (own_blk_ne own6 kb6 (by decide)))
                    have f8 := kb8.frozen 2
                    have b28 : w8.cell? ⟨w.heap.size + 1, 2, none⟩ = some (.slice Av l0.length cv) := kb8.at_ rfl
                    have own9 : w8.ownsRow w3.heap.size 67 4 (.slice A8 (l0.length + 1) c8) (l0 ++ [(⟨s, q, tk, tv⟩ : TxD)]).length (txsC (l0 ++ [(⟨s, q, tk, tv⟩ : TxD)])) := by
                      rw [txsC_append, List.length_append]; exact hown8
                    have OWN := hide (own9.kept (grown_set w8 (w.heap.size + 1) 2 (.slice A8 (l0.length + 1) c8)) (Or.inr (own_blk_ne own9 kb8 (by decide))))
                    have KB := hide (kb8.set_ 2 (.slice A8 (l0.length + 1) c8))
                    have GR := hide (grown_trans gr8 (grown_set w8 (w.heap.size + 1) 2 (.slice A8 (l0.length + 1) c8)))
                    have HR4 : Hid (R - 4 = (m' - 1) * 4) := by have := HRR.out; rw [Hid]; omega
                    have HSA : Hid (c' = 4 → Sl w3 1 (some ⟨g2, o, none⟩) (R - 4) (strs rs')) := fun e => by
                      have h1 := hsk.drop_ (k := 4) hR4
                      rw [strs_drop] at h1
                      have h2 : R - 4 = 0 := by omega
                      refine ⟨h1.1, fun h => by omega⟩
                    have HSB : Hid (Sl w3 1 (some ⟨g2, o + 4, none⟩) (R - 4) (strs rs')) := by
                      have h1 := hsk.drop_ (k := 4) hR4
                      rw [strs_drop] at h1
                      exact h1
                    have hl1 : (l0 ++ [(⟨s, q, tk, tv⟩ : TxD)]).length + (m' - 1) ≤ 300000 := by rw [List.length_append]; simp; omega
                    clear hown8 hg8 gr8 kb8 own9 own6 kb6 gr6 b26 t0 t1 t2 t3 hsk kr6 hb6
                    go_wp2_with fail
                    all_goals
                      go_roundw
                      case rel =>
                        have h4 := HR4.out
                        by_cases hc4 : c' = 4
                        all_goals try simp only [hc4, if_true, if_false]
                        all_goals first
                          | exact ⟨o, m' - 1, _, _, rs', _, by rw [h4], by omega, by omega, by omega, hl1, by rw [← h4]; exact HSA.out hc4, HZ2.out, HTZ2.out, HMY2.out, GR.out, KB.out, OWN.out⟩
                          | exact ⟨o, m' - 1, 0, _, rs', _, by rw [h4], by omega, by omega, by omega, hl1, by rw [← h4]; exact HSA.out (by assumption), HZ2.out, HTZ2.out, HMY2.out, GR.out, KB.out, OWN.out⟩
                          | exact ⟨o + 4, m' - 1, c' - 4, _, rs', _, by rw [h4], by omega, by omega, by omega, hl1, by rw [← h4]; exact HSB.out, HZ2.out, HTZ2.out, HMY2.out, GR.out, KB.out, OWN.out⟩
                      case measure => simp [sliceLen]; omega
                · obtain rfl : m' = 0 := by omega
                  have hrs : rs = [] := List.eq_nil_of_length_eq_zero (by omega)
                  subst hrs
                  have HMB : Hid (mayB a b l0 = false) := by have := HMY.out [] rfl; rw [List.append_nil] at this; exact this
                  obtain ⟨Av, cv, rfl⟩ := own_slice hown
                  have b0 : wo.cell? ⟨w.heap.size + 1, 0, none⟩ = some (.int .i64 a) := hkb.at_ rfl
                  have b1 : wo.cell? ⟨w.heap.size + 1, 1, none⟩ = some (.int .i64 b) := hkb.at_ rfl
                  clear hsk hgr hkb hrl
                  go_wp2_with fail
                  refine (batch_May (c := cv) a b _ (Sl.of_own hown) (by omega) HTZ.out HMB).mono ?_
                  rintro e w6 ⟨rfl, hb6⟩
                  have kr6 := krw.later hb6
                  have hb7 := hbw.trans (hb6.mono (by omega))
                  clear hown hb6 b0 b1 b2 krw hbw
                  go_wp2_with fail
                  go_step3
                  rename_i hk
                  exact hk _ _ (H _ _ ⟨_, _, _, _, _, _, _, _, _, _, _, _, _, _, _, _, _, _, _, _, _, _, _, _, _, _, _, _, _, _, _, _, _, _, _, _, _, _, _, _, _, _, _, _, _, _, _, _, _, _, _, _, _, _, _, _, _, _, _, _, _, _, _, _, _, _, _, _, _, _, rfl, kr6, hb7⟩)
end Go.Proofs.Ytihpmaifcebpiaa
