/-
  Contracts: the batch that bytes are: the program's.
-/
import Derived.Test.YtmnogefpphonlaaGr07
import Derived.Test.YtmnogefpphonlaaGr05
import Derived.Deep.RegionHeld3
import Derived.Deep.DrawnRows
set_option linter.unusedVariables false
set_option linter.unusedSimpArgs false
namespace Go.Proofs.Ytmnogefpphonlaa
open Go.RowKit
attribute [local go_sem ↓] Go.wp_at_zero Go.wp_at_succ

theorem grown_new {w wa wb : World} {g g' : Nat} (h : w.grownBy wa (some g)) (h' : wa.grownBy wb (some g')) (hg : w.heap.size ≤ g') : w.grownBy wb (some g) :=
  ⟨h'.os.trans h.os, h'.tape.trans h.tape, h'.output.trans h.output, Nat.le_trans h.size h'.size, fun k hk hr => (h'.block k (Nat.lt_of_lt_of_le hk h.size) (by intro e; injection e with e; omega)).trans (h.block k hk hr)⟩
theorem grown_row {w wa wb : World} {g : Nat} {row : Option Nat} (h : w.grownBy wa (some g)) (h' : wa.grownBy wb row) (hg : ∀ g', row = some g' → w.heap.size ≤ g') : w.grownBy wb (some g) :=
  ⟨h'.os.trans h.os, h'.tape.trans h.tape, h'.output.trans h.output, Nat.le_trans h.size h'.size, fun k hk hr => (h'.block k (Nat.lt_of_lt_of_le hk h.size) (by intro e; have := hg k e.symm; omega)).trans (h.block k hk hr)⟩
theorem grown_alloc {w wa : World} {g : Nat} (h : w.grownBy wa (some g)) (o : Obj) : w.grownBy (wa.alloc o) (some g) := grown_trans h (World.grownBy_alloc wa o _)
theorem below_of_grown {B : Nat} {w wa wb : World} {g : Nat} (hb : Below B w wa) (hg : wa.grownBy wb (some g)) (hB : B ≤ wa.heap.size) (h : B ≤ g) : Below B w wb := hb.grown hg hB (fun k hk => by injection hk with hk; omega)
theorem Sl.drop_ {w : World} {g o n : Nat} {cs : List Value} (h : Sl w 1 (some ⟨g, o, none⟩) n cs) {k : Nat} (hk : k ≤ n) : Sl w 1 (some ⟨g, o + k, none⟩) (n - k) (cs.drop k) := by
  refine ⟨by rw [List.length_drop, h.1]; omega, fun hn => ?_⟩
  obtain ⟨b, off, e, hb, hc⟩ := h.2 (by omega)
  injection e with e
  injection e with e1 e2
  subst e1; subst e2
  refine ⟨g, o + k, rfl, hb, fun j u hu => ?_⟩
  rw [Nat.add_assoc]
  exact hc _ u (by rw [← hu, List.getElem?_drop])
theorem strs_drop (ls : List ByteArray) (k : Nat) : (strs ls).drop k = strs (ls.drop k) := by rw [strs, strs, List.map_drop]
theorem Sl.lit {w : World} {g o n j : Nat} {ls : List ByteArray} {u : ByteArray} (h : Sl w 1 (some ⟨g, o, none⟩) n (strs ls)) (hj : ls[j]? = some u) (hn : 0 < n) : w.cell? ⟨g, o + j, none⟩ = some (.string u) := by
  obtain ⟨b, off, e, hb, hc⟩ := h.2 hn
  injection e with e
  injection e with e1 e2
  subst e1; subst e2
  exact hc j _ (by simp [strs, hj])
theorem Try.infoTx : (Try.prog.info? 87).map (fun i => (i.zero, i.size, i.bytes)) = some (some (.agg #[.int .i64 0, .int .i64 0, .string ByteArray.empty, .string ByteArray.empty]), 4, 48) := by kernel_rfl
theorem grown_drew {w wa : World} {row : Option Nat} (h : w.grownBy wa row) : w.grownBy wa.drew row := ⟨h.os, h.tape, h.output, h.size, h.block⟩
theorem txsC_one (l : List TxD) : ∀ u ∈ txsC l, u.oneCell' = true := by
  intro u hu
  simp only [txsC, List.mem_flatMap] at hu
  obtain ⟨t, _, hu⟩ := hu
  simp only [txC, List.mem_cons, List.not_mem_nil, or_false] at hu
  rcases hu with rfl | rfl | rfl | rfl <;> rfl
/-- What the batch's reader answers. -/
def sliceLen : Value → Nat
  | .slice _ n _ => n
  | _ => 0
def zeroB : Value := .agg #[.int .i64 0, .int .i64 0, .slice none 0 0]
/-- What holds at each round's head. -/
def ParseRel (w3 : World) (gb g2 m : Nat) (a b : Int) (l : List TxD) (s : Value) (wr : World) : Prop :=
  ∃ (k o c' : Nat) (v : Value), k ≤ m ∧ s = .slice (some ⟨g2, o, none⟩) ((m - k) * 4) c' ∧ (m - k) * 4 ≤ c' ∧ c' ≤ 9223372036854775807 ∧ Sl w3 1 (some ⟨g2, o, none⟩) ((m - k) * 4) (strs ((l.drop k).flatMap txT)) ∧ w3.grownBy wr (some gb) ∧ Blk wr gb 25 #[.int .i64 a, .int .i64 b, v] ∧ wr.ownsRow w3.heap.size 87 4 v k (txsC (l.take k))
set_option maxRecDepth 100000 in
set_option maxHeartbeats 4000000 in
theorem batch_Parse_yes {A : Option Addr} {n c : Nat} {bs : List UInt8} {a b : Int} {l : List TxD} (w : World) (hs : Sl w 1 A n (bytes8 bs)) (hnc : n ≤ c) (hc : c ≤ 9223372036854775807) (hg : parseB bs = some (a, b, l)) :
    Calls Try.prog 29 #[.slice A n c] w fun e w' => ∃ v, e = .returned (.tuple #[.agg #[.int .i64 a, .int .i64 b, v], .int .i64 0]) ∧ w'.ownsRow w.heap.size 87 4 v l.length (txsC l) ∧ Below w.heap.size w w' := by
  obtain ⟨hB, hm⟩ := parseB_back hg
  have hall := mayB_iff.1 hm
  obtain ⟨hsize1, hsize2⟩ := batch_size hm
  have HGT : Hid (getT bs = some (batchT a b l)) := by
    rw [Hid, hB]
    exact getL_there codecT (fun s hs => by have := hsize1 s hs; omega) (by rw [putL_T]; show (batchB a b l).length ≤ _; omega)
  obtain ⟨m, HM⟩ : ∃ m, Hid (l.length = m) := ⟨_, rfl⟩
  have hm8 : m ≤ 8 := by rw [← HM.out]; exact hall.2.2.1.2
  obtain ⟨L, HLL⟩ : ∃ L, Hid ((batchT a b l).length = L) := ⟨_, rfl⟩
  have hL : L = 3 + m * 4 := by rw [← HLL.out, batchT_len, HM.out]
  have hL4 : ((L : Int) % 4 != 3) = false := by rw [bne_eq_false_iff_eq]; omega
  have hm1 : 1 ≤ m := by rw [← HM.out]; exact hall.2.2.1.1
  have hL3 : 7 ≤ L := by omega
  have hd3 : decide ((L : Int) < 3) = false := by rw [decide_eq_false_iff_not]; omega
  have hLX : L ≤ 35 := by omega
  have HLM := hide hL
  have HSZ := hide hsize1
  have HALL := hide hall
  have HMB := hide hm
  have hs2 := (hs.alloc (.cells #[.int .i64 0, .int .i64 0, .slice none 0 0] 25)).alloc (.cells #[.int .i64 0, .int .i64 0, .slice none 0 0] 25)
  have kb := Blk.new2 w (.cells #[.int .i64 0, .int .i64 0, .slice none 0 0] 25) 25 #[.int .i64 0, .int .i64 0, .slice none 0 0]
  have kr := (Blk.new w 25 #[.int .i64 0, .int .i64 0, .slice none 0 0]).alloc (.cells #[.int .i64 0, .int .i64 0, .slice none 0 0] 25)
  have hb0 : Below w.heap.size w ((w.alloc (.cells #[.int .i64 0, .int .i64 0, .slice none 0 0] 25)).alloc (.cells #[.int .i64 0, .int .i64 0, .slice none 0 0] 25)) := (below_alloc w _).alloc (by simp) _
  obtain ⟨j0, hj, hj0, hj1, hj2⟩ := info_parts Try.infoTx
  clear hs hg hB hm hall hsize1 hsize2 hL
  go_enter Try.func29, Try.ntmps29
  go_wp2_with fail
  go_step3
  go_wp2_with fail
  generalize (w.alloc (.cells #[.int .i64 0, .int .i64 0, .slice none 0 0] 25)).alloc (.cells #[.int .i64 0, .int .i64 0, .slice none 0 0] 25) = w1 at hs2 kb kr hb0 ⊢
  refine (wire_Get_yes _ hs2 hnc hc HGT.out).mono ?_
  rintro e w2 ⟨v2, rfl, hown2, hb2⟩
  rw [HLL.out] at hown2
  obtain ⟨A2, c2, rfl, hc2, hc2m⟩ := own_slice_cap hown2
  unfold maxLen at hc2m
  have hsz1 : w.heap.size + 1 < w1.heap.size := kb.lt
  obtain ⟨g2, cap2, hv2, hg2, hg2l⟩ := hown2.form (by omega)
  injection hv2 with hA2 _ hcap
  subst hA2
  have kb2 := kb.later hb2
  have kr2 := kr.later hb2
  have hbb := hb0.trans (hb2.mono (by omega))
  have hs4 := Sl.of_own hown2
  have q0 : w2.cell? ⟨g2, 0, none⟩ = some (.string ⟨#[98, 97, 116, 99, 104]⟩) := by
    have := hown2.cellAt 0 (by omega)
    rw [this]; rfl
  clear kb kr hb0 hb2 hs2 hown2
  go_wp2_with fail
  have hsA := (hs4.drop_ (k := 1) (by omega)).alloc (.cells #[.pointer (some ⟨w.heap.size + 1, 0, none⟩), .pointer (some ⟨w.heap.size + 1, 1, none⟩)] 56)
  rw [strs_drop, Nat.zero_add] at hsA
  have hp := Sl.of_blk (size := 1) (n := 2) (Blk.new w2 56 #[.pointer (some ⟨w.heap.size + 1, 0, none⟩), .pointer (some ⟨w.heap.size + 1, 1, none⟩)]) rfl
  have hw2 : w1.heap.size ≤ g2 := hg2
  have HR : Hid (wholes (((batchT a b l).drop 1).take 2) = some [a, b]) := by
    have h1 := wholeN_numS (n := a) (by have := HALL.out.1; omega) (by have := HALL.out.1; omega)
    have h2 := wholeN_numS (n := b) (by have := HALL.out.2.1; omega) (by have := HALL.out.2.1; omega)
    show wholes [numS a, numS b] = _
    rw [wholes, wholes, wholes, h1, h2]
  refine (wire_Read (os := [0, 1]) (g := w.heap.size + 1) _ hsA hp (kb2.alloc _) (by omega) (by omega) (fun b off _ e => by injection e with e; injection e; omega) (fun b off _ e => by injection e with e; injection e; omega) (by simp) (fun s hs => by have := HSZ.out s (List.mem_of_mem_drop hs); omega) HR).mono ?_
  rintro e w3 ⟨rfl, hgr3, HB3⟩
  have kb3 : Blk w3 (w.heap.size + 1) 25 #[.int .i64 a, .int .i64 b, .slice none 0 0] := HB3.out _ rfl
  have hs5 := (hs4.alloc (.cells #[.pointer (some ⟨w.heap.size + 1, 0, none⟩), .pointer (some ⟨w.heap.size + 1, 1, none⟩)] 56)).grown_ne hgr3 (fun b off _ e => by injection e with e; injection e; omega)
  have kr3 := (kr2.alloc (.cells #[.pointer (some ⟨w.heap.size + 1, 0, none⟩), .pointer (some ⟨w.heap.size + 1, 1, none⟩)] 56)).grown hgr3 (by intro e; injection e with e; omega)
  have hzz2 := hbb.size
  have hb3 : Below w.heap.size w w3 := below_of_grown (hbb.alloc (by omega) _) hgr3 (by simp; omega) (by omega)
  have hzz3 := hgr3.size
  simp at hzz3
  clear HB3 hgr3 hp hsA hbb kb2 kr2 hs4 q0 HR
  go_wp2_with fail
  have hg2b : g2 ≠ w.heap.size + 1 := by omega
  have hsR : Sl w3 1 (some ⟨g2, 3, none⟩) (L - 3) (strs (l.flatMap txT)) := by
    have := hs5.drop_ (k := 3) (by omega)
    rw [strs_drop, Nat.zero_add] at this
    exact this
  have hR0 : L - 3 = (m - 0) * 4 := by have := HLM.out; omega
  rw [hR0] at hsR ⊢
  clear hs5 hR0
  have HKR := hide kr3
  have HB3 := hide hb3
  go_loopw [5] (fun s wr => ParseRel w3 (w.heap.size + 1) g2 m a b l s wr) (fun s _ => sliceLen s)
  case atStart => exact ⟨0, 3, _, _, Nat.zero_le _, rfl, by have := HLM.out; omega, by omega, hsR, grown_refl _ _, kb3, World.ownsRow_nil _ _ _ _⟩
  case round =>
    obtain ⟨k, o, c', v, hk, rfl, hkc, hcm, hsk, hgr, hkb, hown⟩ := hrel
    obtain ⟨wo, rfl⟩ : ∃ wo : World, wo = wr := ⟨_, rfl⟩
    clear hsR kb3 kr3 hb3
    have hszo := hgr.size
    have b2 : wo.cell? ⟨w.heap.size + 1, 2, none⟩ = some v := hkb.at_ rfl
    by_cases hlt : k < m
    · obtain ⟨R, HRR⟩ : ∃ R, Hid ((m - k) * 4 = R) := ⟨_, rfl⟩
      have hR4 : 4 ≤ R := by rw [← HRR.out]; omega
      have hR32 : R ≤ 32 := by rw [← HRR.out]; omega
      rw [HRR.out] at hkc hsk ⊢
      have hRi0 : (0 : Int) < (R : Int) := by omega
      have hRi2 : (2 : Int) < (R : Int) := by omega
      have hRi3 : (3 : Int) < (R : Int) := by omega
      have HU : Hid (l[k]? = some (l[k]'(by rw [HM.out]; exact hlt))) := List.getElem?_eq_getElem _
      obtain ⟨t, ht⟩ : ∃ t, l[k]'(by rw [HM.out]; exact hlt) = t := ⟨_, rfl⟩
      rw [ht] at HU
      have HD : Hid (l.drop k = t :: l.drop (k + 1)) := drop_at HU.out
      have htx := mayTx_iff.1 (HALL.out.2.2.2 t (List.mem_of_getElem? HU.out))
      have hsk' := hsk.grown_ne hgr (fun b off _ e => by injection e with e; injection e; omega)
      clear ht
      obtain ⟨s, q, tk, tv⟩ := t
      have HFM : Hid ((l.drop k).flatMap txT = numS s :: numS q :: tk :: tv :: (l.drop (k + 1)).flatMap txT) := by rw [Hid, HD.out]; rfl
      rw [HFM.out] at hsk hsk'
      have q2 : wo.cell? ⟨g2, o + 2, none⟩ = some (.string tk) := hsk'.lit rfl (by omega)
      have q3 : wo.cell? ⟨g2, o + 3, none⟩ = some (.string tv) := hsk'.lit rfl (by omega)
      go_wp2_with fail
      go_region_held3 (fun w' => w'.cell? ⟨g2, o + 2, none⟩ = some (.string tk) ∧ w'.cell? ⟨g2, o + 3, none⟩ = some (.string tv)) (go_keep) (fail)
      all_goals go_wp2_with fail
      have sx := (hsk'.alloc (.cells #[.int .i64 0, .int .i64 0, .string tk, .string tv] 87)).alloc (.cells #[.pointer (some ⟨wo.heap.size, 0, none⟩), .pointer (some ⟨wo.heap.size, 1, none⟩)] 56) |>.drew
      have px := (Sl.of_blk (size := 1) (n := 2) (Blk.new2 wo (.cells #[.int .i64 0, .int .i64 0, .string tk, .string tv] 87) 56 #[.pointer (some ⟨wo.heap.size, 0, none⟩), .pointer (some ⟨wo.heap.size, 1, none⟩)]) rfl).drew
      have tx := ((Blk.new wo 87 #[.int .i64 0, .int .i64 0, .string tk, .string tv]).alloc (.cells #[.pointer (some ⟨wo.heap.size, 0, none⟩), .pointer (some ⟨wo.heap.size, 1, none⟩)] 56)).drew
      have kbx := ((hkb.alloc (.cells #[.int .i64 0, .int .i64 0, .string tk, .string tv] 87)).alloc (.cells #[.pointer (some ⟨wo.heap.size, 0, none⟩), .pointer (some ⟨wo.heap.size, 1, none⟩)] 56)).drew
      have ownx := ((hown.alloc (.cells #[.int .i64 0, .int .i64 0, .string tk, .string tv] 87)).alloc (.cells #[.pointer (some ⟨wo.heap.size, 0, none⟩), .pointer (some ⟨wo.heap.size, 1, none⟩)] 56)).drew
      have grx := grown_drew (grown_alloc (grown_alloc hgr (.cells #[.int .i64 0, .int .i64 0, .string tk, .string tv] 87)) (.cells #[.pointer (some ⟨wo.heap.size, 0, none⟩), .pointer (some ⟨wo.heap.size, 1, none⟩)] 56))
      have hgt : ∀ g, v.ownBlock = some g → g < wo.heap.size := fun g h => (hown.lt g h).2
      have hgbo : w.heap.size + 1 < wo.heap.size := hkb.lt
      generalize ((wo.alloc (.cells #[.int .i64 0, .int .i64 0, .string tk, .string tv] 87)).alloc (.cells #[.pointer (some ⟨wo.heap.size, 0, none⟩), .pointer (some ⟨wo.heap.size, 1, none⟩)] 56)).drew = wx at sx px tx kbx ownx grx ⊢
      have HR : Hid (wholes ((numS s :: numS q :: tk :: tv :: (l.drop (k + 1)).flatMap txT).take 2) = some [s, q]) := by
        have h1 := wholeN_numS (n := s) (by have := htx.1; omega) (by have := htx.1; omega)
        have h2 := wholeN_numS (n := q) (by have := htx.2.1; omega) (by have := htx.2.1; omega)
        show wholes [numS s, numS q] = _
        rw [wholes, wholes, wholes, h1, h2]
      have HSM : Hid (∀ x ∈ (numS s :: numS q :: tk :: tv :: (l.drop (k + 1)).flatMap txT), x.size ≤ 9223372036854775807) := by
        intro x hx
        have h1 : x ∈ batchT a b l := by
          rw [← HFM.out] at hx
          simp only [batchT, List.mem_cons]
          refine Or.inr (Or.inr (Or.inr ?_))
          obtain ⟨y, hy, hx⟩ := List.mem_flatMap.1 hx
          exact List.mem_flatMap.2 ⟨y, List.mem_of_mem_drop hy, hx⟩
        have := HSZ.out x h1
        omega
      refine (wire_Read (os := [0, 1]) (g := wo.heap.size) _ sx px tx (by omega) (by omega) (fun b off _ e => by injection e with e; injection e; omega) (fun b off _ e => by injection e with e; injection e; omega) (by simp) HSM.out HR).mono ?_
      rintro e w6 ⟨rfl, hgr6, HB6⟩
      have tb6 : Blk w6 wo.heap.size 87 #[.int .i64 s, .int .i64 q, .string tk, .string tv] := HB6.out _ rfl
      have own6 := ownx.kept hgr6 (Or.inr (fun e => by have := hgt _ e; omega))
      have kb6 := kbx.grown hgr6 (by intro e; injection e with e; omega)
      have gr6 := grown_new grx hgr6 hszo
      have hz6 := gr6.size
      obtain ⟨Av, cv, rfl⟩ := own_slice own6
      have b26 : w6.cell? ⟨w.heap.size + 1, 2, none⟩ = some (.slice Av k cv) := kb6.at_ rfl
      have t0 : w6.cell? ⟨wo.heap.size, 0, none⟩ = some (.int .i64 s) := tb6.at_ rfl
      have t1 : w6.cell? ⟨wo.heap.size, 1, none⟩ = some (.int .i64 q) := tb6.at_ rfl
      have t2 : w6.cell? ⟨wo.heap.size, 2, none⟩ = some (.string tk) := tb6.at_ rfl
      have t3 : w6.cell? ⟨wo.heap.size, 3, none⟩ = some (.string tv) := tb6.at_ rfl
      clear HB6 hgr6 sx px tx kbx ownx grx hown hkb hgr hsk' q2 q3 b2 tb6
      go_wp2_with (at_builtin; refine wpList_append_any _ rfl _ _ 23 rfl w3.heap.size 87 j0 _ 4 48 Try.underlying23 hj hj0 hj1 hj2 rfl (by decide) _ _ _ rfl (own6.alloc _) _ 1 1 (txsC [⟨s, q, tk, tv⟩]) rfl (Sl.of_blk (size := 4) (n := 1) (Blk.new w6 87 #[.int .i64 s, .int .i64 q, .string tk, .string tv]) rfl) (txsC_one _) (by unfold maxLen; omega) (by omega) (by simp; omega) ?_)
      intro v8 w8 hown8 hg8
      obtain ⟨A8, c8, rfl⟩ := own_slice hown8
      have gr8 := grown_row (grown_alloc gr6 _) hg8 (fun g h => (own6.lt g h).1)
      have kb8 := (kb6.alloc _).grown hg8 (Ne.symm (own_blk_ne own6 kb6 (by decide)))
      have f8 := kb8.frozen 2
      have b28 : w8.cell? ⟨w.heap.size + 1, 2, none⟩ = some (.slice Av k cv) := kb8.at_ rfl
      have own9 : w8.ownsRow w3.heap.size 87 4 (.slice A8 (k + 1) c8) (k + 1) (txsC (l.take (k + 1))) := by
        rw [take_at HU.out, txsC_append]; exact hown8
      have OWN := hide (own9.kept (grown_set w8 (w.heap.size + 1) 2 (.slice A8 (k + 1) c8)) (Or.inr (own_blk_ne own9 kb8 (by decide))))
      have KB := hide (kb8.set_ 2 (.slice A8 (k + 1) c8))
      have GR := hide (grown_trans gr8 (grown_set w8 (w.heap.size + 1) 2 (.slice A8 (k + 1) c8)))
      have HR4 : Hid (R - 4 = (m - (k + 1)) * 4) := by have := HRR.out; rw [Hid]; omega
      have HSA : Hid (c' = 4 → Sl w3 1 (some ⟨g2, o, none⟩) (R - 4) (strs ((l.drop (k + 1)).flatMap txT))) := fun e => by
        have h1 := hsk.drop_ (k := 4) hR4
        rw [strs_drop] at h1
        have h2 : R - 4 = 0 := by omega
        refine ⟨h1.1, fun h => by omega⟩
      have HSB : Hid (Sl w3 1 (some ⟨g2, o + 4, none⟩) (R - 4) (strs ((l.drop (k + 1)).flatMap txT))) := by
        have h1 := hsk.drop_ (k := 4) hR4
        rw [strs_drop] at h1
        exact h1
      clear hown8 hg8 gr8 kb8 own9 own6 kb6 gr6 b26 t0 t1 t2 t3 hsk
      go_wp2_with fail
      all_goals
        go_roundw
        case rel =>
          have h4 := HR4.out
          first
            | exact ⟨k + 1, o, 0, _, by omega, by rw [h4], by omega, by omega, by rw [← h4]; exact HSA.out (by assumption), GR.out, KB.out, OWN.out⟩
            | exact ⟨k + 1, o + 4, c' - 4, _, by omega, by rw [h4], by omega, by omega, by rw [← h4]; exact HSB.out, GR.out, KB.out, OWN.out⟩
        case measure => simp [sliceLen]; omega
    · obtain rfl : k = m := by omega
      rw [List.take_of_length_le (by rw [HM.out]; exact Nat.le_refl _)] at hown
      obtain ⟨Av, cv, rfl⟩ := own_slice hown
      have b0 : wo.cell? ⟨w.heap.size + 1, 0, none⟩ = some (.int .i64 a) := hkb.at_ rfl
      have b1 : wo.cell? ⟨w.heap.size + 1, 1, none⟩ = some (.int .i64 b) := hkb.at_ rfl
      have krw := HKR.out.grown hgr (by intro e; injection e with e; omega)
      have hbw : Below w.heap.size w wo := below_of_grown HB3.out hgr (by omega) (by omega)
      have HTZ : TxZ l := fun t ht => by have := mayTx_iff.1 (HALL.out.2.2.2 t ht); omega
      clear hsk hgr hkb
      go_wp2_with fail
      refine (batch_May (c := cv) a b _ (Sl.of_own hown) (by omega) HTZ HMB).mono ?_
      rintro e w6 ⟨rfl, hb6⟩
      have own6 := own_later hown hb6
      have b06 := cell_later hb6 b0
      have b16 := cell_later hb6 b1
      have b26 := cell_later hb6 b2
      have kr6 := krw.later hb6
      have hb7 := hbw.trans (hb6.mono (by omega))
      have r0 : w6.cell? ⟨w.heap.size, 0, none⟩ = some (.int .i64 0) := kr6.at_ rfl
      have r1 : w6.cell? ⟨w.heap.size, 1, none⟩ = some (.int .i64 0) := kr6.at_ rfl
      have r2 : w6.cell? ⟨w.heap.size, 2, none⟩ = some (.slice none 0 0) := kr6.at_ rfl
      have f0 := kr6.frozen 0
      have f1 := kr6.frozen 1
      have f2 := kr6.frozen 2
      clear hown hb6 b0 b1 b2 krw hbw
      go_wp2_with fail
      rw [Exit.noGoto_ret]
      have KRF : Blk (((w6.setCell ⟨w.heap.size, 0, none⟩ (.int .i64 a)).setCell ⟨w.heap.size, 1, none⟩ (.int .i64 b)).setCell ⟨w.heap.size, 2, none⟩ (.slice Av k cv)) w.heap.size 25 #[.int .i64 a, .int .i64 b, .slice Av k cv] := ((kr6.set_ 0 _).set_ 1 _).set_ 2 _
      have hne := own_blk_ne own6 kr6 (by decide)
      have OWF := ((own6.kept (grown_set w6 w.heap.size 0 (.int .i64 a)) (Or.inr hne)).kept (grown_set _ w.heap.size 1 (.int .i64 b)) (Or.inr hne)).kept (grown_set _ w.heap.size 2 (.slice Av k cv)) (Or.inr hne)
      have HBF := ((hb7.setCell (p := ⟨w.heap.size, 0, none⟩) (Nat.le_refl _) (.int .i64 a)).setCell (p := ⟨w.heap.size, 1, none⟩) (Nat.le_refl _) (.int .i64 b)).setCell (p := ⟨w.heap.size, 2, none⟩) (Nat.le_refl _) (.slice Av k cv)
      clear own6 kr6 hb7 r0 r1 r2 f0 f1 f2 b06 b16 b26 hne
      generalize ((w6.setCell ⟨w.heap.size, 0, none⟩ (.int .i64 a)).setCell ⟨w.heap.size, 1, none⟩ (.int .i64 b)).setCell ⟨w.heap.size, 2, none⟩ (.slice Av k cv) = wf at KRF OWF HBF ⊢
      have r0 : wf.cell? ⟨w.heap.size, 0, none⟩ = some (.int .i64 a) := KRF.at_ rfl
      have r1 : wf.cell? ⟨w.heap.size, 1, none⟩ = some (.int .i64 b) := KRF.at_ rfl
      have r2 : wf.cell? ⟨w.heap.size, 2, none⟩ = some (.slice Av k cv) := KRF.at_ rfl
      refine bodyPost_ret (v := .tuple #[.agg #[.int .i64 a, .int .i64 b, .slice Av k cv], .int .i64 0]) (by simp [results, Try.results29, go_sem, r0, r1, r2]) rfl ⟨_, rfl, ?_, HBF⟩
      rw [HM.out]
      exact own_mono OWF (by omega)
end Go.Proofs.Ytmnogefpphonlaa
