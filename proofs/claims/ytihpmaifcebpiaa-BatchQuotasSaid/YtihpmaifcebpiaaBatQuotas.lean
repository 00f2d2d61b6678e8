/-
  The walk of BatchQuotas: whatever the asks, the call answers true and changes nothing that was there.
-/
import Derived.Test.YtihpmaifcebpiaaBatU
set_option linter.unusedVariables false
set_option linter.unusedSimpArgs false
namespace Go.Proofs.Ytihpmaifcebpiaa
open Go.RowKit

def T1 (W : World) (i : Nat) (v : Value) (w : World) : Prop := match i with
  | 0 => ∃ g, v = .slice (some ⟨g, 0, none⟩) 16 16 ∧ Sl w 1 (some ⟨g, 0, none⟩) 16 (bytes8 (List.replicate 16 0))
  | 1 => v = .string zk
  | 2 => ∃ g, v = .slice (some ⟨g, 0, none⟩) 32 32 ∧ Sl w 1 (some ⟨g, 0, none⟩) 32 (bytes8 (List.replicate 32 0))
  | 3 => v = .string zv
  | 4 => v = .agg (txC tT).toArray
  | 5 => ∃ g, v = .pointer (some ⟨g, 0, none⟩) ∧ W.heap.size ≤ g ∧ Blk w g 67 zT4
  | _ => True
theorem T1.below {W : World} : ∀ i v w w', T1 W i v w → Below w.heap.size w w' → T1 W i v w'
  | 0, _, _, _, ⟨g, e, h⟩, hb => ⟨g, e, h.below hb⟩
  | 1, _, _, _, h, _ => h
  | 2, _, _, _, ⟨g, e, h⟩, hb => ⟨g, e, h.below hb⟩
  | 3, _, _, _, h, _ => h
  | 4, _, _, _, h, _ => h
  | 5, _, _, _, ⟨g, e, hg, h⟩, hb => ⟨g, e, hg, h.on hb⟩
  | _ + 6, _, _, _, _, _ => trivial
def T23 (g12 gA g10 cA j : Nat) (t : TxD) (i : Nat) (v : Value) (_ : World) : Prop := match i with
  | 0 => v = .pointer (some ⟨g12, 2, none⟩)
  | 1 => v = .slice (some ⟨gA, 0, none⟩) 8 cA
  | 2 => v = .int .i64 (j : Int)
  | 3 => v = .slice (some ⟨g10, 0, none⟩) 7 7
  | 4 => v = .int .i64 (j : Int)
  | 5 => v = .pointer (some ⟨g10, j * 4, none⟩)
  | 6 => v = .agg (txC t).toArray
  | 7 => v = .pointer (some ⟨gA, j * 4, none⟩)
  | _ => True
def T26c (W : World) (v : Value) (w : World) : Prop := ∃ A c, v = .agg (bC 16 1099511627776 A 8 c) ∧ w.ownsRow W.heap.size 67 4 (.slice A 8 c) 8 (txsC (tL 8))
def T26b (W : World) (v : Value) (w : World) : Prop := ∃ g, v = .pointer (some ⟨g, 0, none⟩) ∧ W.heap.size ≤ g ∧ Blk w g 26 zB3
def T26 (W : World) (C : Array Value) (i : Nat) (v : Value) (w : World) : Prop := match i with
  | 0 => v = .agg C
  | 1 => T26c W v w
  | 2 => v = .agg C
  | 3 => T26c W v w
  | 4 => v = .agg C
  | 5 => T26c W v w
  | 6 => v = .agg C
  | 7 => T26c W v w
  | 8 => T26b W v w
  | 9 => T26b W v w
  | 10 => T26b W v w
  | 11 => T26b W v w
  | _ => True
def ob (v : Value) : Option Nat := match v with
  | .agg c => match c[2]? with
    | some s => s.ownBlock
    | none => none
  | .pointer (some a) => some a.block
  | _ => none
def bo26 (i : Nat) (v : Value) : Option Nat := match i with
  | 1 | 3 | 5 | 7 | 8 | 9 | 10 | 11 => ob v
  | _ => none
theorem T26c.below {W w w' : World} {v : Value} (h : T26c W v w) (hb : Below w.heap.size w w') : T26c W v w' := by
  obtain ⟨A, c, e, h⟩ := h
  exact ⟨A, c, e, own_later h hb⟩
theorem T26b.below {W w w' : World} {v : Value} (h : T26b W v w) (hb : Below w.heap.size w w') : T26b W v w' := by
  obtain ⟨g, e, hg, h⟩ := h
  exact ⟨g, e, hg, h.on hb⟩
theorem T26c.lt {W w : World} {v : Value} (h : T26c W v w) {b : Nat} (hb : ob v = some b) : b < w.heap.size := by
  obtain ⟨A, c, rfl, h⟩ := h
  exact own_in h hb
theorem T26b.lt {W w : World} {v : Value} (h : T26b W v w) {b : Nat} (hb : ob v = some b) : b < w.heap.size := by
  obtain ⟨g, rfl, hg, h⟩ := h
  injection hb with hb
  subst hb
  exact h.lt
theorem T26.below {W : World} {C : Array Value} : ∀ i v w w', T26 W C i v w → Below w.heap.size w w' → T26 W C i v w'
  | 0, _, _, _, h, _ => h
  | 1, _, _, _, h, hb => T26c.below h hb
  | 2, _, _, _, h, _ => h
  | 3, _, _, _, h, hb => T26c.below h hb
  | 4, _, _, _, h, _ => h
  | 5, _, _, _, h, hb => T26c.below h hb
  | 6, _, _, _, h, _ => h
  | 7, _, _, _, h, hb => T26c.below h hb
  | 8, _, _, _, h, hb => T26b.below h hb
  | 9, _, _, _, h, hb => T26b.below h hb
  | 10, _, _, _, h, hb => T26b.below h hb
  | 11, _, _, _, h, hb => T26b.below h hb
  | _ + 12, _, _, _, _, _ => trivial
theorem T26.lt {W : World} {C : Array Value} : ∀ i v w, T26 W C i v w → ∀ b, bo26 i v = some b → b < w.heap.size
  | 0, _, _, _, _, hb => by cases hb
  | 1, _, _, h, _, hb => T26c.lt h hb
  | 2, _, _, _, _, hb => by cases hb
  | 3, _, _, h, _, hb => T26c.lt h hb
  | 4, _, _, _, _, hb => by cases hb
  | 5, _, _, h, _, hb => T26c.lt h hb
  | 6, _, _, _, _, hb => by cases hb
  | 7, _, _, h, _, hb => T26c.lt h hb
  | 8, _, _, h, _, hb => T26b.lt h hb
  | 9, _, _, h, _, hb => T26b.lt h hb
  | 10, _, _, h, _, hb => T26b.lt h hb
  | 11, _, _, h, _, hb => T26b.lt h hb
  | _ + 12, _, _, _, _, hb => by cases hb

theorem sm_9 : Sm (tL 8 ++ [tT]) := fun t ht => by
  rcases List.mem_append.1 ht with h | h
  · exact sm_tL 8 t h
  · obtain rfl : t = tT := by simpa using h
    exact sm_tT
set_option maxRecDepth 100000 in
set_option maxHeartbeats 4000000 in
theorem walk_BatchQuotas {v : Value} {w : World} (ho : ∃ A n c, v = .slice A n c ∧ Asks4 w A n) :
    Calls Try.prog 12 #[v] w fun r w' => r = .returned (.bool true) ∧ Below w.heap.size w w' := by
  obtain ⟨A, n, c, rfl, hn, _⟩ := ho
  go_enter Try.func12, Try.ntmps12
  refine act_off 192 [(0, .slice A n c)] (Frm.start rfl (by intro p hp; simp only [List.mem_cons, List.not_mem_nil, or_false] at hp; subst hp; rfl)) (fun a0 hM => ?_)
  have HB2 : Hid (Below w.heap.size w w) := Below.refl _ _
  refine region_then fun K3 QK3 hK3 => ?_
  refine s_val hM (.inl rfl) rfl rfl (ev_move (.inr rfl) rfl) (fun a5 hM4 => ?_)
  clear hM
  refine seg_nil (hK3 _ _ ?_)
  clear hK3 K3 QK3
  have hM6 := hM4.cut2 (t1 := 0) (t2 := 2) rfl rfl
  clear hM4
  refine wp_mono_region (P := Try.prog) (by kernel_rfl) 6 7 (monoR_of (by kernel_rfl)) (T1 w) (fun _ _ => none) hM6 T1.below (fun i v w _ b hb => (by cases hb)) (fun i o hi ho a w' f hb hM hd Kc hK => ?_) (fun fuel a w' f hf hJ => ?_)
  case refine_1 =>
    have hio : i = 0 ∨ i = 1 ∨ i = 2 ∨ i = 3 ∨ i = 4 ∨ i = 5 := by omega
    obtain ⟨ti, hti, hz0, hz1, hz2⟩ := info_parts Try.infoByte
    rcases hio with rfl | rfl | rfl | rfl | rfl | rfl
    · have ho2 := Option.some.inj ho
      subst ho2
      refine m_val (d := 17) ho hM (.inl rfl) rfl (run_mk (k := 16) rfl Try.underlying27 hti hz0 hz1 hz2 (by omega)) (hK _ _ ⟨_, rfl, ?_⟩ (below_alloc_ _ _) (fun b hb => (by cases hb)))
      have h := Sl.of_blk (size := 1) (n := 16) (Blk.new w' 5 (bytes8 (List.replicate 16 0)).toArray) (by simp [bytes8])
      exact h
    · have ho2 := Option.some.inj ho
      subst ho2
      obtain ⟨hM2, g, e0, hs⟩ := hd 0 (m_dep (by kernel_rfl))
      rw [e0] at hM2
      exact m_val (d := 18) ho hM2 (.inl rfl) rfl (ev_cstr rfl rfl Try.underlying27 Try.underlying5 Try.underlying9 hs a _ hM2) (hK _ _ rfl (Below.refl _ _) (fun b hb => (by cases hb)))
    · have ho2 := Option.some.inj ho
      subst ho2
      refine m_val (d := 19) ho hM (.inl rfl) rfl (run_mk (k := 32) rfl Try.underlying27 hti hz0 hz1 hz2 (by omega)) (hK _ _ ⟨_, rfl, ?_⟩ (below_alloc_ _ _) (fun b hb => (by cases hb)))
      have h := Sl.of_blk (size := 1) (n := 32) (Blk.new w' 5 (bytes8 (List.replicate 32 0)).toArray) (by simp [bytes8])
      exact h
    · have ho2 := Option.some.inj ho
      subst ho2
      obtain ⟨hM2, g, e0, hs⟩ := hd 2 (m_dep (by kernel_rfl))
      rw [e0] at hM2
      exact m_val (d := 20) ho hM2 (.inl rfl) rfl (ev_cstr rfl rfl Try.underlying27 Try.underlying5 Try.underlying9 hs a _ hM2) (hK _ _ rfl (Below.refl _ _) (fun b hb => (by cases hb)))
    · have ho2 := Option.some.inj ho
      subst ho2
      obtain ⟨h1, e1⟩ := hd 1 (m_dep (by kernel_rfl))
      obtain ⟨h3, e3⟩ := hd 3 (m_dep (by kernel_rfl))
      rw [show f 1 = .string zk from e1] at h1
      rw [show f 3 = .string zv from e3] at h3
      have hM2 := h1.more h3
      exact m_val (d := 21) ho hM2 (.inl rfl) rfl (ev_buildg (v := .agg (txC tT).toArray) rfl rfl (fun w => by kernel_rfl) a _ hM2) (hK _ _ rfl (Below.refl _ _) (fun b hb => (by cases hb)))
    · have ho2 := Option.some.inj ho
      subst ho2
      exact m_val (d := 3) ho hM (.inl rfl) rfl (ev_alloc rfl alloc_tx) (hK _ _ ⟨_, rfl, hb.size, Blk.new _ _ _⟩ (below_alloc_ _ _) (fun b hb => (by cases hb)))
  obtain ⟨fuel, rfl⟩ : ∃ q, fuel = q + 1 := ⟨fuel - 1, by omega⟩
  obtain ⟨h4, e4⟩ := hJ.val 4 (by omega) trivial
  obtain ⟨h5, g3, e5, hg3, hk3⟩ := hJ.val 5 (by omega) trivial
  rw [show f 4 = .agg (txC tT).toArray from e4] at h4
  rw [e5] at h5
  have hMx := h4.more h5
  refine m_putrow (cs := zT4) (C := (txC tT).toArray) 6 rfl (by kernel_rfl) hMx rfl rfl rfl rfl rfl hk3 info_tx4 rfl (one_tx _) (fun w8 kd hg => m_done (by kernel_rfl) ⟨rfl, ?_⟩)
  obtain ⟨TT, HTT⟩ : ∃ C : Array Value, Hid (C = (txC tT).toArray) := ⟨_, rfl⟩
  have KB3 : Hid (Blk w8 g3 67 TT) := by rw [HTT.out]; exact kd
  have HB9 := hide (below_then HB2.out (hJ.below.grown hg hJ.below.size (fun b hb => by injection hb with hb; subst hb; exact hg3)))
  have hM7 := hMx.cut3 (t1 := 0) (t2 := 2) (t3 := 3) rfl rfl rfl
  clear hMx h4 h5 e4 e5 hJ hk3 kd hg hf hg3 hM6 HB2
  have HB11 : Hid (Below w8.heap.size w8 w8) := Below.refl _ _
  have KB12 := hide (KB3.out.on HB11.out)
  have HB00_ := hide HB9.out
  clear KB3 HB9 HB11
  have HB00 := HB00_
  clear HB00_
  have HB14 : Hid (Below w8.heap.size w8 w8) := Below.refl _ _
  refine region_then fun K15 QK15 hK15 => ?_
  refine s_val hM7 (.inl rfl) rfl rfl (ev_buildg (v := .agg (bC 16 1099511627776 none 0 0)) rfl rfl (fun w => by kernel_rfl)) (fun a17 hM16 => ?_)
  clear hM7
  refine s_new hM16 rfl rfl rfl rfl alloc_bat rfl rfl rfl rfl info_bat3 rfl one_bC (fun g18 a24 w19 hM23 KB22_ hb20 hg21 => ?_)
  have KB22 := hide KB22_
  clear hM16 KB22_
  have lo25 := hide (Nat.le_trans HB14.out.size hg21)
  clear hg21
  have HB26 := hide (below_then HB14.out hb20)
  clear hb20 HB14
  have HB28 : Hid (Below w19.heap.size w19 w19) := Below.refl _ _
  have HG4 := lo25
  refine seg_nil (hK15 _ _ ?_)
  clear hK15 K15 QK15
  have hM29 := hM23.cut4 (t1 := 0) (t2 := 2) (t3 := 3) (t4 := 4) rfl rfl rfl rfl
  clear hM23
  refine wp_seq_k fun K30 hK30 => ?_
  refine region_then fun K31 QK31 hK31 => ?_
  refine s_val hM29 (.inl rfl) rfl rfl (ev_move (.inr rfl) rfl) (fun a33 hM32 => ?_)
  clear hM29
  refine seg_nil (hK31 _ _ ?_)
  clear hK31 K31 QK31
  have hM34 := hM32.cut5 (t1 := 0) (t2 := 2) (t3 := 3) (t4 := 4) (t5 := 5) rfl rfl rfl rfl rfl
  clear hM32
  have HOL : Hid (OwnR w19 w8.heap.size 67 4 (.slice none 0 0) 0 (txsC (tL 0))) := World.ownsRow_nil _ _ _ _
  have HLN : Hid (0 ≤ 8) := Nat.zero_le _
  have HK4 := hide (KB22.out.on HB28.out)
  have hM35 := hM34.cut5 (t1 := 5) (t2 := 0) (t3 := 2) (t4 := 3) (t5 := 4) rfl rfl rfl rfl rfl
  clear hM34
  refine wp_block ?_
  refine wp_loop_ghost (fun m a w' => ∃ (j : Nat) (AL : Option Addr) (cL : Nat), m = 8 - j ∧ Frm a 192 [(5, .int .i64 (j : Int)), (0, .slice A n c), (2, .bool false), (3, .pointer (some ⟨g3, 0, none⟩)), (4, .pointer (some ⟨g18, 0, none⟩))] ∧ Hid (Below w8.heap.size w8 w') ∧ Hid (Blk w' g18 26 (bC 16 1099511627776 AL j cL)) ∧ Hid (OwnR w' w8.heap.size 67 4 (.slice AL j cL) j (txsC (tL j))) ∧ Hid (j ≤ 8)) 8 ⟨0, none, 0,  by omega, hM35, HB26, HK4, HOL, HLN⟩ ?_
  clear HB26 HB28 hM35 HOL HLN HK4
  rintro m40 a37 w36 ⟨j, AL, cL, rfl, hM38, HB39, HK4, HOL, HLN⟩
  have HB42 : Hid (Below w36.heap.size w36 w36) := Below.refl _ _
  refine wp_seq_k fun K43 hK43 => ?_
  by_cases hlt : j < 8
  case pos =>
    refine region_then fun K44 QK44 hK44 => ?_
    refine s_val hM38 (.inl rfl) rfl rfl (ev_move (.inl rfl) rfl) (fun a46 hM45 => ?_)
    clear hM38
    refine s_val hM45 (.inl rfl) rfl rfl (ev_bin rfl rfl rfl g_int (b_lss (b := true) (by rw [decide_eq_true_eq]; omega))) (fun a48 hM47 => ?_)
    clear hM45
    refine seg_nil (hK44 _ _ ?_)
    clear hK44 K44 QK44
    have hM49 := hM47.cut6 (t1 := 0) (t2 := 2) (t3 := 3) (t4 := 4) (t5 := 5) (t6 := 24) rfl rfl rfl rfl rfl rfl
    clear hM47
    refine wp_cond_true (hM49.ev (t := 24) rfl) ?_
    refine wp_skip ?_
    refine hK43 _ _ ?_
    refine wp_seq_k fun K50 hK50 => ?_
    refine wp_block ?_
    refine region_last fun K51 QK51 hK51 => ?_
    refine s_val hM49 (.inl rfl) rfl rfl (ev_fldw (m := 2) rfl rfl (fun w => by simp [go_sem])) (fun a53 hM52 => ?_)
    clear hM49
    refine s_val hM52 (.inl rfl) rfl rfl (ev_load1 (v := .slice AL j cL) rfl rfl ((HK4.out.on HB42.out).rng.at_ (m := 2) rfl) (isAgg_no Try.underlying24 rfl)) (fun a55 hM54 => ?_)
    clear hM52
    refine s_val hM54 (.inl rfl) rfl rfl (ev_loadm rfl rfl (KB12.out.on HB39.out).rng Try.underlying67 rfl (by rw [HTT.out]; exact info_tx4)) (fun a57 hM56 => ?_)
    clear hM54
    refine s_alloc (e := 67) hM56 (.inl rfl) rfl rfl (V := fun g => .slice (some ⟨g, 0, none⟩) 1 1) (ev_bsg (C := TT) hM56 rfl rfl (fun w => by rw [HTT.out]; kernel_rfl)) (fun g58 a64 w59 hM63 KB62_ hb60 hg61 => ?_)
    have KB62 := hide KB62_
    clear hM56 KB62_
    clear hg61
    have HB65 := hide (below_then HB39.out hb60)
    have HB66 := hide (below_then HB42.out hb60)
    clear hb60 HB39 HB42
    have HB68 : Hid (Below w59.heap.size w59 w59) := Below.refl _ _
    obtain ⟨i0, hi, hz0, hz1, hz2⟩ := info_parts Try.infoTx
    have hO := (HOL.out.below HB66.out)
    have hK4 := (HK4.out.on HB66.out)
    refine s_append hM63 (.inl rfl) rfl rfl rfl w8.heap.size 67 i0 _ 4 48 Try.underlying24 hi hz0 hz1 hz2 rfl (by decide) j (txsC (tL j)) rfl hO ⟨g58, 0, none⟩ 1 1 TT.toList rfl (by rw [HTT.out]; rfl) (news_row (KB62.out.on HB68.out)) (by rw [HTT.out]; exact one_tx _) (by unfold maxLen; omega) (by omega) HB65.out.size (fun V2 a70 w71 hM69 ho hgr hat => ?_)
    obtain ⟨AL2, cL2, rfl⟩ := own_slice ho
    have HO2 : Hid (OwnR w71 w8.heap.size 67 4 (.slice AL2 (j + 1) cL2) (j + 1) (txsC (tL (j + 1)))) := by
      rw [tL_snoc, txsC_append]
      have h := ho
      rw [HTT.out] at h
      exact h
    have HB72 := hide (below_grown_own HB65.out hO hgr)
    have KB73 := hide (hK4.grown hgr (Ne.symm (own_blk_ne hO hK4 (by decide))))
    clear hO hK4 ho hgr hat hi hz0 hz1 hz2 HOL hM63 HB65 HB66 HB68 HK4
    have HOL := HO2
    clear HO2
    have HB75 : Hid (Below w71.heap.size w71 w71) := Below.refl _ _
    refine s_val hM69 (.inl rfl) rfl rfl (ev_fldw (m := 2) rfl rfl (fun w => by simp [go_sem])) (fun a77 hM76 => ?_)
    clear hM69
    have hO := (HOL.out.below HB75.out)
    have hk4 := (KB73.out.on HB75.out)
    refine s_put (v := .slice AL2 (j + 1) cL2) hM76 rfl rfl rfl rfl rfl hk4 (by rw [bC_sz]; decide) (st_slice Try.underlying24 (by kernel_rfl)) (fun w78 kd hg => ?_)
    have KB79 : Hid (Blk w78 g18 26 (bC 16 1099511627776 AL2 (j + 1) cL2)) := by
      have h := kd
      rw [bC_set2] at h
      exact h
    have HO2 := hide (show OwnR _ _ _ _ _ _ _ from own_keep hO hg (fun b hb => by injection hb with hb; subst hb; exact own_blk_ne hO hk4 (by decide)))
    have HB80 := hide (HB72.out.grown hg HB72.out.size (fun b hb => by injection hb with hb; subst hb; exact HG4.out))
    clear hO hk4 kd hg HOL HB72 HB75 KB73
    have HOL := HO2
    clear HO2
    have HB82 : Hid (Below w78.heap.size w78 w78) := Below.refl _ _
    refine seg_nil (hK51 _ _ ?_)
    clear hK51 K51 QK51
    have hM83 := hM76.cut5 (t1 := 0) (t2 := 2) (t3 := 3) (t4 := 4) (t5 := 5) rfl rfl rfl rfl rfl
    clear hM76
    refine inb_n ?_
    refine hK50 _ _ ?_
    refine region_last fun K84 QK84 hK84 => ?_
    refine s_val hM83 (.inl rfl) rfl rfl (ev_move (.inl rfl) rfl) (fun a86 hM85 => ?_)
    clear hM83
    refine s_val hM85 (.inl rfl) rfl rfl (ev_bin rfl rfl rfl g_int (b_add (r := ((j + 1 : Nat) : Int)) (by omega) (by omega))) (fun a88 hM87 => ?_)
    clear hM85
    refine s_val hM87 (.inl rfl) rfl rfl (ev_move (.inr rfl) rfl) (fun a90 hM89 => ?_)
    clear hM87
    refine seg_nil (hK84 _ _ ?_)
    clear hK84 K84 QK84
    have hM91 := hM89.cut5 (t1 := 0) (t2 := 2) (t3 := 3) (t4 := 4) (t5 := 5) rfl rfl rfl rfl rfl
    clear hM89
    have hM92 := hM91.cut5 (t1 := 5) (t2 := 0) (t3 := 2) (t4 := 3) (t5 := 4) rfl rfl rfl rfl rfl
    clear hM91
    exact ⟨8 - (j + 1), by omega, j + 1, AL2, cL2, rfl, hM92, HB80, (hide (KB79.out.on HB82.out)), (hide (HOL.out.below HB82.out)), (show Hid (j + 1 ≤ 8) from hlt)⟩
  case neg =>
    obtain rfl : j = 8 := by have := HLN.out; omega
    refine region_then fun K93 QK93 hK93 => ?_
    refine s_val hM38 (.inl rfl) rfl rfl (ev_move (.inl rfl) rfl) (fun a95 hM94 => ?_)
    clear hM38
    refine s_val hM94 (.inl rfl) rfl rfl (ev_bin rfl rfl rfl g_int (b_lss (b := false) (by decide))) (fun a97 hM96 => ?_)
    clear hM94
    refine seg_nil (hK93 _ _ ?_)
    clear hK93 K93 QK93
    have hM98 := hM96.cut6 (t1 := 0) (t2 := 2) (t3 := 3) (t4 := 4) (t5 := 5) (t6 := 24) rfl rfl rfl rfl rfl rfl
    clear hM96
    refine wp_cond_false (hM98.ev (t := 24) rfl) ?_
    refine wp_exit ?_
    repeat (with_reducible refine th_e ?_)
    refine inb_e ?_
    refine hK30 _ _ ?_
    have HS8 := hide (show Sl _ _ _ _ _ from Sl.of_own (HOL.out.below HB42.out))
    clear HOL
    have HB100 : Hid (Below w36.heap.size w36 w36) := Below.refl _ _
    have HS8_ := hide (HS8.out.below HB100.out)
    have KB101 := hide (KB12.out.on HB39.out)
    have KB102 := hide (HK4.out.on HB42.out)
    have HB00_ := hide (below_then HB00.out HB39.out)
    clear HS8 KB12 HK4 HB39 HB42 HB100 HB00
    have HS8 := HS8_
    clear HS8_
    have HB00 := HB00_
    clear HB00_
    have HB104 : Hid (Below w36.heap.size w36 w36) := Below.refl _ _
    clear HG4 HLN hlt
    obtain ⟨BB, HBB⟩ : ∃ b, Hid (batchB 16 1099511627776 (tL 8) = b) := ⟨_, rfl⟩
    have HPB : Hid (parseB BB = some (16, 1099511627776, tL 8)) := by rw [← HBB.out]; exact parseB_there may8
    refine region_then fun K105 QK105 hK105 => ?_
    refine s_val hM98 (.inl rfl) rfl rfl (ev_loadm rfl rfl (KB102.out.on HB104.out).rng Try.underlying26 rfl info_bat3) (fun a107 hM106 => ?_)
    clear hM98
    refine s_call hM106 (.inl rfl) rfl rfl (f := 16) (args := #[.agg ((bC 16 1099511627776 AL 8 cL))]) (ev_call hM106 rfl rfl rfl (fun w => by simp [go_sem]) _) (batch_Bytes_yes (c := cL) 16 1099511627776 _ (HS8.out.below HB104.out) (sm_tL 8).z may8) (fun e w108 hp => ?_)
    obtain ⟨v1, rfl, o1, hb109⟩ := hp
    rw [HBB.out] at o1
    obtain ⟨A1, c1, rfl, hc1, hm1⟩ := own_slice_cap o1
    have HSB := hide (Sl.of_own o1)
    clear o1
    refine ⟨_, rfl, fun a111 hM110 => ?_⟩
    clear hM106
    have HB112 := hide (below_then HB104.out hb109)
    clear hb109 HB104
    have HB114 : Hid (Below w108.heap.size w108 w108) := Below.refl _ _
    refine s_val hM110 (.inl rfl) rfl rfl (ev_move (.inl rfl) rfl) (fun a116 hM115 => ?_)
    clear hM110
    refine s_val hM115 (.inl rfl) rfl rfl (ev_ext (v := .slice A1 (BB.length) c1) rfl rfl rfl) (fun a118 hM117 => ?_)
    clear hM115
    refine s_val hM117 (.inl rfl) rfl rfl (ev_ext (v := .int .i64 0) rfl rfl rfl) (fun a120 hM119 => ?_)
    clear hM117
    refine s_val hM119 (.inl rfl) rfl rfl (ev_move (.inr rfl) rfl) (fun a122 hM121 => ?_)
    clear hM119
    refine s_val hM121 (.inl rfl) rfl rfl (ev_move (.inr rfl) rfl) (fun a124 hM123 => ?_)
    clear hM121
    refine seg_nil (hK105 _ _ ?_)
    clear hK105 K105 QK105
    have hM125 := hM123.cut6 (t1 := 0) (t2 := 2) (t3 := 3) (t4 := 4) (t5 := 6) (t6 := 7) rfl rfl rfl rfl rfl rfl
    clear hM123
    refine region_then fun K126 QK126 hK126 => ?_
    refine s_val hM125 (.inl rfl) rfl rfl (ev_move (.inl rfl) rfl) (fun a128 hM127 => ?_)
    clear hM125
    refine s_call hM127 (.inl rfl) rfl rfl (f := 23) (args := #[.slice A1 (BB.length) c1]) (ev_call hM127 rfl rfl rfl (fun w => by simp [go_sem]) _) (batch_Parse_yes _ (HSB.out.below HB114.out) hc1 (by unfold maxLen at hm1; exact hm1) HPB.out) (fun e w129 hp => ?_)
    obtain ⟨v2, rfl, o2, hb130⟩ := hp
    rw [tL_len] at o2
    obtain ⟨A2, c2, rfl⟩ := own_slice o2
    have HS2 := hide (Sl.of_own o2)
    clear o2
    refine ⟨_, rfl, fun a132 hM131 => ?_⟩
    clear hM127
    have HB133 := hide (below_then HB112.out hb130)
    have HB134 := hide (below_then HB114.out hb130)
    clear hb130 HB112 HB114
    have HB136 : Hid (Below w129.heap.size w129 w129) := Below.refl _ _
    refine s_val hM131 (.inl rfl) rfl rfl (ev_move (.inl rfl) rfl) (fun a138 hM137 => ?_)
    clear hM131
    refine s_val hM137 (.inl rfl) rfl rfl (ev_ext (v := .agg ((bC 16 1099511627776 A2 8 c2))) rfl rfl rfl) (fun a140 hM139 => ?_)
    clear hM137
    refine s_val hM139 (.inl rfl) rfl rfl (ev_ext (v := .int .i64 0) rfl rfl rfl) (fun a142 hM141 => ?_)
    clear hM139
    refine s_new hM141 rfl rfl rfl rfl alloc_bat rfl rfl rfl rfl info_bat3 rfl one_bC (fun g143 a149 w144 hM148 KB147_ hb145 hg146 => ?_)
    have KB147 := hide KB147_
    clear hM141 KB147_
    have lo150 := hide (Nat.le_trans HB133.out.size hg146)
    have lo151 := hide (Nat.le_trans HB134.out.size hg146)
    have lo152 := hide (Nat.le_trans HB136.out.size hg146)
    clear hg146
    have HB153 := hide (below_then HB133.out hb145)
    have HB154 := hide (below_then HB134.out hb145)
    have HB155 := hide (below_then HB136.out hb145)
    clear hb145 HB133 HB134 HB136
    have HB157 : Hid (Below w144.heap.size w144 w144) := Below.refl _ _
    refine s_val hM148 (.inl rfl) rfl rfl (ev_move (.inr rfl) rfl) (fun a159 hM158 => ?_)
    clear hM148
    refine seg_nil (hK126 _ _ ?_)
    clear hK126 K126 QK126
    have hM160 := hM158.cut7 (t1 := 0) (t2 := 2) (t3 := 3) (t4 := 4) (t5 := 7) (t6 := 8) (t7 := 9) rfl rfl rfl rfl rfl rfl rfl
    clear hM158
    refine wp_seq_k fun K161 hK161 => ?_
    refine region_then fun K162 QK162 hK162 => ?_
    refine s_val hM160 (.inl rfl) rfl rfl (ev_move (.inl rfl) rfl) (fun a164 hM163 => ?_)
    clear hM160
    refine s_call hM163 (.inl rfl) rfl rfl (f := 18) (args := #[.int .i64 0]) (ev_call hM163 rfl rfl rfl (fun w => by simp [go_sem]) _) (law4_num _ _) (fun e w165 hp => ?_)
    obtain ⟨rfl, rfl⟩ := hp
    refine ⟨_, rfl, fun a168 hM167 => ?_⟩
    clear hM163
    refine s_val hM167 (.inl rfl) rfl rfl (ev_bin rfl rfl rfl g_int (b_neq (b := false) (by decide))) (fun a170 hM169 => ?_)
    clear hM167
    refine s_val hM169 (.inl rfl) rfl rfl (ev_move (.inl rfl) rfl) (fun a172 hM171 => ?_)
    clear hM169
    refine s_val hM171 (.inr ⟨_, _, _, rfl, rfl, rfl⟩) rfl rfl (ev_move (.inl rfl) rfl) (fun a174 hM173 => ?_)
    clear hM171
    refine s_call hM173 (.inr ⟨_, _, _, rfl, rfl, rfl⟩) rfl rfl (f := 18) (args := #[.int .i64 0]) (ev_call hM173 rfl rfl rfl (fun w => by simp [go_sem]) _) (law4_num _ _) (fun e w175 hp => ?_)
    obtain ⟨rfl, rfl⟩ := hp
    refine ⟨_, rfl, fun a178 hM177 => ?_⟩
    clear hM173
    refine s_val hM177 (.inr ⟨_, _, _, rfl, rfl, rfl⟩) rfl rfl (ev_bin rfl rfl rfl g_int (b_neq (b := false) (by decide))) (fun a180 hM179 => ?_)
    clear hM177
    refine s_val hM179 (.inl rfl) rfl rfl (ev_pick rfl rfl rfl) (fun a182 hM181 => ?_)
    clear hM179
    refine s_val hM181 (.inl rfl) rfl rfl (ev_move (.inl rfl) rfl) (fun a184 hM183 => ?_)
    clear hM181
    refine s_val hM183 (.inr ⟨_, _, _, rfl, rfl, rfl⟩) rfl rfl (ev_loadm rfl rfl (KB147.out.on HB157.out).rng Try.underlying26 rfl info_bat3) (fun a186 hM185 => ?_)
    clear hM183
    refine s_val hM185 (.inr ⟨_, _, _, rfl, rfl, rfl⟩) rfl rfl (ev_loadm rfl rfl (KB102.out.on HB153.out).rng Try.underlying26 rfl info_bat3) (fun a188 hM187 => ?_)
    clear hM185
    refine s_call hM187 (.inr ⟨_, _, _, rfl, rfl, rfl⟩) rfl rfl (f := 25) (args := #[.agg ((bC 16 1099511627776 A2 8 c2)), .agg ((bC 16 1099511627776 AL 8 cL))]) (ev_call hM187 rfl rfl rfl (fun w => by simp [go_sem]) _) (ref0_EqBatch (c := c2) (d := cL) 16 1099511627776 16 1099511627776 _ (HS2.out.below HB155.out) (by decide) (HS8.out.below HB153.out) (by decide) (r := true) (by simp [Hid])) (fun e w189 hp => ?_)
    obtain ⟨rfl, hb190⟩ := hp
    refine ⟨_, rfl, fun a192 hM191 => ?_⟩
    clear hM187
    have HB193 := hide (below_then HB153.out hb190)
    have HB194 := hide (below_then HB154.out hb190)
    have HB195 := hide (below_then HB155.out hb190)
    have HB196 := hide (below_then HB157.out hb190)
    clear hb190 HB153 HB154 HB155 HB157
    refine s_val hM191 (.inr ⟨_, _, _, rfl, rfl, rfl⟩) rfl rfl (ev_not rfl rfl rfl) (fun a198 hM197 => ?_)
    clear hM191
    refine s_val hM197 (.inl rfl) rfl rfl (ev_pick rfl rfl rfl) (fun a200 hM199 => ?_)
    clear hM197
    refine s_val hM199 (.inl rfl) rfl rfl (ev_move (.inl rfl) rfl) (fun a202 hM201 => ?_)
    clear hM199
    refine s_val hM201 (.inr ⟨_, _, _, rfl, rfl, rfl⟩) rfl rfl (ev_loadm rfl rfl (KB101.out.on HB193.out).rng Try.underlying67 rfl (by rw [HTT.out]; exact info_tx4)) (fun a204 hM203 => ?_)
    clear hM201
    refine s_call hM203 (.inr ⟨_, _, _, rfl, rfl, rfl⟩) rfl rfl (f := 37) (args := #[.agg TT]) (ev_call hM203 rfl rfl rfl (fun w => by simp [go_sem]) _) (batch_TxA HTT.out _ sm_tT (hide may_tT)) (fun e w205 hp => ?_)
    obtain ⟨rfl, hb206⟩ := hp
    refine ⟨_, rfl, fun a208 hM207 => ?_⟩
    clear hM203
    have HB209 := hide (below_then HB193.out hb206)
    have HB210 := hide (below_then HB194.out hb206)
    have HB211 := hide (below_then HB195.out hb206)
    have HB212 := hide (below_then HB196.out hb206)
    clear hb206 HB193 HB194 HB195 HB196
    refine s_call hM207 (.inr ⟨_, _, _, rfl, rfl, rfl⟩) rfl rfl (f := 18) (args := #[.int .i64 0]) (ev_call hM207 rfl rfl rfl (fun w => by simp [go_sem]) _) (law4_num _ _) (fun e w213 hp => ?_)
    obtain ⟨rfl, rfl⟩ := hp
    refine ⟨_, rfl, fun a216 hM215 => ?_⟩
    clear hM207
    refine s_val hM215 (.inr ⟨_, _, _, rfl, rfl, rfl⟩) rfl rfl (ev_bin rfl rfl rfl g_int (b_neq (b := false) (by decide))) (fun a218 hM217 => ?_)
    clear hM215
    refine s_val hM217 (.inl rfl) rfl rfl (ev_pick rfl rfl rfl) (fun a220 hM219 => ?_)
    clear hM217
    refine seg_nil (hK162 _ _ ?_)
    clear hK162 K162 QK162
    have hM221 := hM219.cut5 (t1 := 0) (t2 := 2) (t3 := 3) (t4 := 4) (t5 := 62) rfl rfl rfl rfl rfl
    clear hM219
    refine wp_cond_false (hM221.ev (t := 62) rfl) ?_
    refine wp_skip ?_
    refine hK161 _ _ ?_
    have HS8_ := hide (HS8.out.below HB209.out)
    have KB222 := hide (KB101.out.on HB209.out)
    have KB223 := hide (KB102.out.on HB209.out)
    have HB00_ := hide (below_then HB00.out HB209.out)
    clear HS8 KB101 KB102 KB147 HB209 HB210 HB211 HB212 HSB HS2 HB00
    have HS8 := HS8_
    clear HS8_
    have HB00 := HB00_
    clear HB00_
    have HB225 : Hid (Below w205.heap.size w205 w205) := Below.refl _ _
    clear HPB HBB hc1 hm1
    refine region_then fun K226 QK226 hK226 => ?_
    refine s_val hM221 (.inl rfl) rfl rfl (ev_loadm rfl rfl (KB222.out.on HB225.out).rng Try.underlying67 rfl (by rw [HTT.out]; exact info_tx4)) (fun a228 hM227 => ?_)
    clear hM221
    refine s_val hM227 (.inl rfl) rfl rfl (ev_loadm rfl rfl (KB222.out.on HB225.out).rng Try.underlying67 rfl (by rw [HTT.out]; exact info_tx4)) (fun a230 hM229 => ?_)
    clear hM227
    refine s_val hM229 (.inl rfl) rfl rfl (ev_loadm rfl rfl (KB222.out.on HB225.out).rng Try.underlying67 rfl (by rw [HTT.out]; exact info_tx4)) (fun a232 hM231 => ?_)
    clear hM229
    refine s_val hM231 (.inl rfl) rfl rfl (ev_loadm rfl rfl (KB222.out.on HB225.out).rng Try.underlying67 rfl (by rw [HTT.out]; exact info_tx4)) (fun a234 hM233 => ?_)
    clear hM231
    refine s_val hM233 (.inl rfl) rfl rfl (ev_loadm rfl rfl (KB222.out.on HB225.out).rng Try.underlying67 rfl (by rw [HTT.out]; exact info_tx4)) (fun a236 hM235 => ?_)
    clear hM233
    refine s_val hM235 (.inl rfl) rfl rfl (ev_loadm rfl rfl (KB222.out.on HB225.out).rng Try.underlying67 rfl (by rw [HTT.out]; exact info_tx4)) (fun a238 hM237 => ?_)
    clear hM235
    refine s_val hM237 (.inl rfl) rfl rfl (ev_loadm rfl rfl (KB222.out.on HB225.out).rng Try.underlying67 rfl (by rw [HTT.out]; exact info_tx4)) (fun a240 hM239 => ?_)
    clear hM237
    refine s_alloc (e := 67) hM239 (.inl rfl) rfl rfl (V := fun g => .slice (some ⟨g, 0, none⟩) 7 7) (ev_bsg (C := bsC 1099511627776 1099511627776 zk zv zk 1099511627776 1099511627776) hM239 rfl rfl (fun w => by rw [HTT.out]; kernel_rfl)) (fun g245 a242 w243 hM241 kb hb244 hg => ?_)
    have HG10 := hide (Nat.le_trans HB225.out.size hg)
    have KB10 := hide kb
    clear kb hg hM239
    have HB246 := hide (below_then HB225.out hb244)
    clear hb244 HB225
    have HB248 : Hid (Below w243.heap.size w243 w243) := Below.refl _ _
    refine s_val hM241 (.inl rfl) rfl rfl (ev_move (.inr rfl) rfl) (fun a250 hM249 => ?_)
    clear hM241
    refine seg_nil (hK226 _ _ ?_)
    clear hK226 K226 QK226
    have hM251 := hM249.cut5 (t1 := 0) (t2 := 2) (t3 := 3) (t4 := 4) (t5 := 10) rfl rfl rfl rfl rfl
    clear hM249
    refine region_then fun K252 QK252 hK252 => ?_
    refine s_val hM251 (.inl rfl) rfl rfl (ev_move (.inl rfl) rfl) (fun a254 hM253 => ?_)
    clear hM251
    refine s_val hM253 (.inl rfl) rfl rfl (ev_idx (b := g245) (k := 0) (sz := 4) (p := 0) rfl rfl rfl Try.underlying24 (by kernel_rfl) (by decide) (by first | rfl | omega)) (fun a256 hM255 => ?_)
    clear hM253
    refine s_val hM255 (.inl rfl) rfl rfl (ev_fldw (m := 0) rfl rfl (fun w => by simp [go_sem])) (fun a258 hM257 => ?_)
    clear hM255
    refine s_val hM257 (.inl rfl) rfl rfl (ev_load1 (v := .int .i64 1099511627776) rfl rfl ((KB10.out.on HB248.out).rng.at_ (m := 0) rfl) (isAgg_no Try.underlying3 rfl)) (fun a260 hM259 => ?_)
    clear hM257
    refine s_val hM259 (.inl rfl) rfl rfl (ev_bin rfl rfl rfl g_int (b_add (r := 1099511627777) (by decide) (by decide))) (fun a262 hM261 => ?_)
    clear hM259
    refine s_val hM261 (.inl rfl) rfl rfl (ev_idx (b := g245) (k := 0) (sz := 4) (p := 0) rfl rfl rfl Try.underlying24 (by kernel_rfl) (by decide) (by first | rfl | omega)) (fun a264 hM263 => ?_)
    clear hM261
    refine s_val hM263 (.inl rfl) rfl rfl (ev_fldw (m := 0) rfl rfl (fun w => by simp [go_sem])) (fun a266 hM265 => ?_)
    clear hM263
    refine s_put hM265 rfl rfl rfl rfl rfl (KB10.out.on HB248.out) (by rw [bsC_sz]; decide) (st_int Try.underlying3 (by kernel_rfl)) (fun w267 KB268_ hg269 => ?_)
    have KB268 : Hid (Blk w267 g245 67 (bsC 1099511627777 1099511627776 zk zv zk 1099511627776 1099511627776)) := by have h := KB268_; rw [bs_0] at h; exact h
    clear KB268_
    have HB270 := hide (below_of_grown HB246.out hg269 HB246.out.size HG10.out)
    clear HB246 HB248 hg269
    have HB272 : Hid (Below w267.heap.size w267 w267) := Below.refl _ _
    refine seg_nil (hK252 _ _ ?_)
    clear hK252 K252 QK252
    have hM273 := hM265.cut5 (t1 := 0) (t2 := 2) (t3 := 3) (t4 := 4) (t5 := 10) rfl rfl rfl rfl rfl
    clear hM265
    refine region_then fun K274 QK274 hK274 => ?_
    refine s_val hM273 (.inl rfl) rfl rfl (ev_move (.inl rfl) rfl) (fun a276 hM275 => ?_)
    clear hM273
    refine s_val hM275 (.inl rfl) rfl rfl (ev_idx (b := g245) (k := 1) (sz := 4) (p := 4) rfl rfl rfl Try.underlying24 (by kernel_rfl) (by decide) (by first | rfl | omega)) (fun a278 hM277 => ?_)
    clear hM275
    refine s_val hM277 (.inl rfl) rfl rfl (ev_fldw (m := 5) rfl rfl (fun w => by simp [go_sem])) (fun a280 hM279 => ?_)
    clear hM277
    refine s_val hM279 (.inl rfl) rfl rfl (ev_load1 (v := .int .i64 1099511627776) rfl rfl ((KB268.out.on HB272.out).rng.at_ (m := 5) rfl) (isAgg_no Try.underlying3 rfl)) (fun a282 hM281 => ?_)
    clear hM279
    refine s_val hM281 (.inl rfl) rfl rfl (ev_bin rfl rfl rfl g_int (b_add (r := 1099511627777) (by decide) (by decide))) (fun a284 hM283 => ?_)
    clear hM281
    refine s_val hM283 (.inl rfl) rfl rfl (ev_idx (b := g245) (k := 1) (sz := 4) (p := 4) rfl rfl rfl Try.underlying24 (by kernel_rfl) (by decide) (by first | rfl | omega)) (fun a286 hM285 => ?_)
    clear hM283
    refine s_val hM285 (.inl rfl) rfl rfl (ev_fldw (m := 5) rfl rfl (fun w => by simp [go_sem])) (fun a288 hM287 => ?_)
    clear hM285
    refine s_put hM287 rfl rfl rfl rfl rfl (KB268.out.on HB272.out) (by rw [bsC_sz]; decide) (st_int Try.underlying3 (by kernel_rfl)) (fun w289 KB290_ hg291 => ?_)
    have KB290 : Hid (Blk w289 g245 67 (bsC 1099511627777 1099511627777 zk zv zk 1099511627776 1099511627776)) := by have h := KB290_; rw [bs_1] at h; exact h
    clear KB290_
    have HB292 := hide (below_of_grown HB270.out hg291 HB270.out.size HG10.out)
    clear HB270 HB272 hg291
    have HB294 : Hid (Below w289.heap.size w289 w289) := Below.refl _ _
    refine seg_nil (hK274 _ _ ?_)
    clear hK274 K274 QK274
    have hM295 := hM287.cut5 (t1 := 0) (t2 := 2) (t3 := 3) (t4 := 4) (t5 := 10) rfl rfl rfl rfl rfl
    clear hM287
    refine region_then fun K296 QK296 hK296 => ?_
    refine s_val hM295 (.inl rfl) rfl rfl (ev_move (.inl rfl) rfl) (fun a298 hM297 => ?_)
    clear hM295
    refine s_val hM297 (.inl rfl) rfl rfl (ev_move (.inl rfl) rfl) (fun a300 hM299 => ?_)
    clear hM297
    refine s_val hM299 (.inl rfl) rfl rfl (ev_idx (b := g245) (k := 2) (sz := 4) (p := 8) rfl rfl rfl Try.underlying24 (by kernel_rfl) (by decide) (by first | rfl | omega)) (fun a302 hM301 => ?_)
    clear hM299
    refine s_val hM301 (.inl rfl) rfl rfl (ev_fldw (m := 10) rfl rfl (fun w => by simp [go_sem])) (fun a304 hM303 => ?_)
    clear hM301
    refine s_val hM303 (.inl rfl) rfl rfl (ev_load1 (v := .string zk) rfl rfl ((KB290.out.on HB294.out).rng.at_ (m := 10) rfl) (isAgg_no Try.underlying9 rfl)) (fun a306 hM305 => ?_)
    clear hM303
    refine s_val hM305 (.inl rfl) rfl rfl (ev_bin (v := .string (zk ++ x1)) rfl rfl rfl g_str (b_cat (q := x1) (by rw [zk_size]; decide))) (fun a308 hM307 => ?_)
    clear hM305
    refine s_val hM307 (.inl rfl) rfl rfl (ev_idx (b := g245) (k := 2) (sz := 4) (p := 8) rfl rfl rfl Try.underlying24 (by kernel_rfl) (by decide) (by first | rfl | omega)) (fun a310 hM309 => ?_)
    clear hM307
    refine s_val hM309 (.inl rfl) rfl rfl (ev_fldw (m := 10) rfl rfl (fun w => by simp [go_sem])) (fun a312 hM311 => ?_)
    clear hM309
    refine s_put hM311 rfl rfl rfl rfl rfl (KB290.out.on HB294.out) (by rw [bsC_sz]; decide) (st_str Try.underlying9 (by kernel_rfl)) (fun w313 KB314_ hg315 => ?_)
    have KB314 : Hid (Blk w313 g245 67 (bsC 1099511627777 1099511627777 ((zk ++ x1)) zv zk 1099511627776 1099511627776)) := by have h := KB314_; rw [bs_2] at h; exact h
    clear KB314_
    have HB316 := hide (below_of_grown HB292.out hg315 HB292.out.size HG10.out)
    clear HB292 HB294 hg315
    have HB318 : Hid (Below w313.heap.size w313 w313) := Below.refl _ _
    refine seg_nil (hK296 _ _ ?_)
    clear hK296 K296 QK296
    have hM319 := hM311.cut5 (t1 := 0) (t2 := 2) (t3 := 3) (t4 := 4) (t5 := 10) rfl rfl rfl rfl rfl
    clear hM311
    refine region_then fun K320 QK320 hK320 => ?_
    refine s_val hM319 (.inl rfl) rfl rfl (ev_move (.inl rfl) rfl) (fun a322 hM321 => ?_)
    clear hM319
    refine s_val hM321 (.inl rfl) rfl rfl (ev_move (.inl rfl) rfl) (fun a324 hM323 => ?_)
    clear hM321
    refine s_val hM323 (.inl rfl) rfl rfl (ev_idx (b := g245) (k := 3) (sz := 4) (p := 12) rfl rfl rfl Try.underlying24 (by kernel_rfl) (by decide) (by first | rfl | omega)) (fun a326 hM325 => ?_)
    clear hM323
    refine s_val hM325 (.inl rfl) rfl rfl (ev_fldw (m := 15) rfl rfl (fun w => by simp [go_sem])) (fun a328 hM327 => ?_)
    clear hM325
    refine s_val hM327 (.inl rfl) rfl rfl (ev_load1 (v := .string zv) rfl rfl ((KB314.out.on HB318.out).rng.at_ (m := 15) rfl) (isAgg_no Try.underlying9 rfl)) (fun a330 hM329 => ?_)
    clear hM327
    refine s_val hM329 (.inl rfl) rfl rfl (ev_bin (v := .string (zv ++ x1)) rfl rfl rfl g_str (b_cat (q := x1) (by rw [zv_size]; decide))) (fun a332 hM331 => ?_)
    clear hM329
    refine s_val hM331 (.inl rfl) rfl rfl (ev_idx (b := g245) (k := 3) (sz := 4) (p := 12) rfl rfl rfl Try.underlying24 (by kernel_rfl) (by decide) (by first | rfl | omega)) (fun a334 hM333 => ?_)
    clear hM331
    refine s_val hM333 (.inl rfl) rfl rfl (ev_fldw (m := 15) rfl rfl (fun w => by simp [go_sem])) (fun a336 hM335 => ?_)
    clear hM333
    refine s_put hM335 rfl rfl rfl rfl rfl (KB314.out.on HB318.out) (by rw [bsC_sz]; decide) (st_str Try.underlying9 (by kernel_rfl)) (fun w337 KB338_ hg339 => ?_)
    have KB338 : Hid (Blk w337 g245 67 (bsC 1099511627777 1099511627777 ((zk ++ x1)) ((zv ++ x1)) zk 1099511627776 1099511627776)) := by have h := KB338_; rw [bs_3] at h; exact h
    clear KB338_
    have HB340 := hide (below_of_grown HB316.out hg339 HB316.out.size HG10.out)
    clear HB316 HB318 hg339
    have HB342 : Hid (Below w337.heap.size w337 w337) := Below.refl _ _
    refine seg_nil (hK320 _ _ ?_)
    clear hK320 K320 QK320
    have hM343 := hM335.cut5 (t1 := 0) (t2 := 2) (t3 := 3) (t4 := 4) (t5 := 10) rfl rfl rfl rfl rfl
    clear hM335
    refine region_then fun K344 QK344 hK344 => ?_
    refine s_val hM343 (.inl rfl) rfl rfl (ev_move (.inl rfl) rfl) (fun a346 hM345 => ?_)
    clear hM343
    refine s_val hM345 (.inl rfl) rfl rfl (ev_idx (b := g245) (k := 4) (sz := 4) (p := 16) rfl rfl rfl Try.underlying24 (by kernel_rfl) (by decide) (by first | rfl | omega)) (fun a348 hM347 => ?_)
    clear hM345
    refine s_val hM347 (.inl rfl) rfl rfl (ev_fldw (m := 18) rfl rfl (fun w => by simp [go_sem])) (fun a350 hM349 => ?_)
    clear hM347
    refine s_put hM349 rfl rfl rfl rfl rfl (KB338.out.on HB342.out) (by rw [bsC_sz]; decide) (st_str Try.underlying9 (by kernel_rfl)) (fun w351 KB352_ hg353 => ?_)
    have KB352 : Hid (Blk w351 g245 67 (bsC 1099511627777 1099511627777 ((zk ++ x1)) ((zv ++ x1)) (⟨#[]⟩) 1099511627776 1099511627776)) := by have h := KB352_; rw [bs_4] at h; exact h
    clear KB352_
    have HB354 := hide (below_of_grown HB340.out hg353 HB340.out.size HG10.out)
    clear HB340 HB342 hg353
    have HB356 : Hid (Below w351.heap.size w351 w351) := Below.refl _ _
    refine seg_nil (hK344 _ _ ?_)
    clear hK344 K344 QK344
    have hM357 := hM349.cut5 (t1 := 0) (t2 := 2) (t3 := 3) (t4 := 4) (t5 := 10) rfl rfl rfl rfl rfl
    clear hM349
    refine region_then fun K358 QK358 hK358 => ?_
    refine s_val hM357 (.inl rfl) rfl rfl (ev_move (.inl rfl) rfl) (fun a360 hM359 => ?_)
    clear hM357
    refine s_val hM359 (.inl rfl) rfl rfl (ev_idx (b := g245) (k := 5) (sz := 4) (p := 20) rfl rfl rfl Try.underlying24 (by kernel_rfl) (by decide) (by first | rfl | omega)) (fun a362 hM361 => ?_)
    clear hM359
    refine s_val hM361 (.inl rfl) rfl rfl (ev_fldw (m := 20) rfl rfl (fun w => by simp [go_sem])) (fun a364 hM363 => ?_)
    clear hM361
    refine s_put hM363 rfl rfl rfl rfl rfl (KB352.out.on HB356.out) (by rw [bsC_sz]; decide) (st_int Try.underlying3 (by kernel_rfl)) (fun w365 KB366_ hg367 => ?_)
    have KB366 : Hid (Blk w365 g245 67 (bsC 1099511627777 1099511627777 ((zk ++ x1)) ((zv ++ x1)) (⟨#[]⟩) 0 1099511627776)) := by have h := KB366_; rw [bs_5] at h; exact h
    clear KB366_
    have HB368 := hide (below_of_grown HB354.out hg367 HB354.out.size HG10.out)
    clear HB354 HB356 hg367
    have HB370 : Hid (Below w365.heap.size w365 w365) := Below.refl _ _
    refine seg_nil (hK358 _ _ ?_)
    clear hK358 K358 QK358
    have hM371 := hM363.cut5 (t1 := 0) (t2 := 2) (t3 := 3) (t4 := 4) (t5 := 10) rfl rfl rfl rfl rfl
    clear hM363
    refine region_then fun K372 QK372 hK372 => ?_
    refine s_val hM371 (.inl rfl) rfl rfl (ev_move (.inl rfl) rfl) (fun a374 hM373 => ?_)
    clear hM371
    refine s_val hM373 (.inl rfl) rfl rfl (ev_idx (b := g245) (k := 6) (sz := 4) (p := 24) rfl rfl rfl Try.underlying24 (by kernel_rfl) (by decide) (by first | rfl | omega)) (fun a376 hM375 => ?_)
    clear hM373
    refine s_val hM375 (.inl rfl) rfl rfl (ev_fldw (m := 25) rfl rfl (fun w => by simp [go_sem])) (fun a378 hM377 => ?_)
    clear hM375
    refine s_put hM377 rfl rfl rfl rfl rfl (KB366.out.on HB370.out) (by rw [bsC_sz]; decide) (st_int Try.underlying3 (by kernel_rfl)) (fun w379 KB380_ hg381 => ?_)
    have KB380 : Hid (Blk w379 g245 67 (bsC 1099511627777 1099511627777 ((zk ++ x1)) ((zv ++ x1)) (⟨#[]⟩) 0 0)) := by have h := KB380_; rw [bs_6] at h; exact h
    clear KB380_
    have HB382 := hide (below_of_grown HB368.out hg381 HB368.out.size HG10.out)
    clear HB368 HB370 hg381
    have HB384 : Hid (Below w379.heap.size w379 w379) := Below.refl _ _
    refine seg_nil (hK372 _ _ ?_)
    clear hK372 K372 QK372
    have hM385 := hM377.cut5 (t1 := 0) (t2 := 2) (t3 := 3) (t4 := 4) (t5 := 10) rfl rfl rfl rfl rfl
    clear hM377
    refine wp_seq_k fun K386 hK386 => ?_
    have HS8_ := hide (HS8.out.below HB382.out)
    have KB387 := hide (KB222.out.on HB382.out)
    have KB388 := hide (KB223.out.on HB382.out)
    have KB389 := hide (KB380.out.on HB384.out)
    have HB00_ := hide (below_then HB00.out HB382.out)
    clear HS8 KB222 KB223 KB380 HB382 HB384 HB00
    have HS8 := HS8_
    clear HS8_
    have HB00 := HB00_
    clear HB00_
    have HB391 : Hid (Below w379.heap.size w379 w379) := Below.refl _ _
    clear HG10
    refine region_then fun K392 QK392 hK392 => ?_
    refine s_val hM385 (.inl rfl) rfl rfl (ev_move (.inr rfl) rfl) (fun a394 hM393 => ?_)
    clear hM385
    refine seg_nil (hK392 _ _ ?_)
    clear hK392 K392 QK392
    have hM395 := hM393.cut6 (t1 := 0) (t2 := 2) (t3 := 3) (t4 := 4) (t5 := 10) (t6 := 11) rfl rfl rfl rfl rfl rfl
    clear hM393
    have HJ7 : Hid (0 ≤ 7) := Nat.zero_le _
    have hM396 := hM395.cut6 (t1 := 11) (t2 := 0) (t3 := 2) (t4 := 3) (t5 := 4) (t6 := 10) rfl rfl rfl rfl rfl rfl
    clear hM395
    refine wp_block ?_
    refine wp_loop_ghost (fun m a w' => ∃ (j : Nat), m = 7 - j ∧ Frm a 192 [(11, .int .i64 (j : Int)), (0, .slice A n c), (2, .bool false), (3, .pointer (some ⟨g3, 0, none⟩)), (4, .pointer (some ⟨g18, 0, none⟩)), (10, .slice ((some ⟨g245, 0, none⟩)) 7 7)] ∧ Hid (Below w379.heap.size w379 w') ∧ Hid (j ≤ 7)) 7 ⟨0,  by omega, hM396, HB391, HJ7⟩ ?_
    clear HB391 hM396 HJ7
    rintro m401 a398 w397 ⟨j, rfl, hM399, HB400, HJ7⟩
    refine wp_seq_k fun K402 hK402 => ?_
    by_cases hlt : j < 7
    case pos =>
      refine region_then fun K403 QK403 hK403 => ?_
      refine s_val hM399 (.inl rfl) rfl rfl (ev_move (.inl rfl) rfl) (fun a405 hM404 => ?_)
      clear hM399
      refine s_val hM404 (.inl rfl) rfl rfl (ev_move (.inl rfl) rfl) (fun a407 hM406 => ?_)
      clear hM404
      refine s_val hM406 (.inl rfl) rfl rfl (ev_len rfl rfl Try.underlying24) (fun a409 hM408 => ?_)
      clear hM406
      refine s_val hM408 (.inl rfl) rfl rfl (ev_bin rfl rfl rfl g_int (b_lss (b := true) (by rw [decide_eq_true_eq]; omega))) (fun a411 hM410 => ?_)
      clear hM408
      refine seg_nil (hK403 _ _ ?_)
      clear hK403 K403 QK403
      have hM412 := hM410.cut7 (t1 := 0) (t2 := 2) (t3 := 3) (t4 := 4) (t5 := 10) (t6 := 11) (t7 := 113) rfl rfl rfl rfl rfl rfl rfl
      clear hM410
      refine wp_cond_true (hM412.ev (t := 113) rfl) ?_
      refine wp_skip ?_
      refine hK402 _ _ ?_
      refine wp_seq_k fun K413 hK413 => ?_
      refine wp_block ?_
      obtain ⟨t, htj⟩ : ∃ t, b7[j]? = some t := ⟨_, List.getElem?_eq_getElem (by rw [b7_len]; exact hlt)⟩
      have hbad := hide (b7_bad (List.mem_of_getElem? htj))
      obtain ⟨TJ, HTJ⟩ : ∃ C : Array Value, Hid (C = (txC t).toArray) := ⟨_, rfl⟩
      have HRJ : Hid (Rng w379 g245 (j * 4) TJ) := by rw [HTJ.out]; exact rng_tx (KB389.out) (bsC_eq) htj
      refine region_then fun K414 QK414 hK414 => ?_
      refine s_val hM412 (.inl rfl) rfl rfl (ev_loadm rfl rfl (KB388.out.on HB400.out).rng Try.underlying26 rfl info_bat3) (fun a416 hM415 => ?_)
      clear hM412
      refine s_call hM415 (.inl rfl) rfl rfl (f := 39) (args := #[.agg ((bC 16 1099511627776 AL 8 cL))]) (ev_call hM415 rfl rfl rfl (fun w => by simp [go_sem]) _) (ref0_CopyBatch (c := cL) 16 1099511627776 _ (HS8.out.below HB400.out) (by decide)) (fun e w417 hp => ?_)
      obtain ⟨v1, rfl, o1, hb418⟩ := hp
      obtain ⟨gA, cA, rfl, _, _⟩ := o1.form (by decide)
      have HO1 := hide (show OwnR _ _ _ _ _ _ _ from own_mono o1 HB400.out.size)
      clear o1
      refine ⟨_, rfl, fun a420 hM419 => ?_⟩
      clear hM415
      have HB421 := hide (below_then HB400.out hb418)
      clear hb418 HB400
      have HB423 : Hid (Below w417.heap.size w417 w417) := Below.refl _ _
      refine s_new hM419 rfl rfl rfl rfl alloc_bat rfl rfl rfl rfl info_bat3 rfl one_bC (fun g424 a430 w425 hM429 KB428_ hb426 hg427 => ?_)
      have KB428 := hide KB428_
      clear hM419 KB428_
      have lo431 := hide (Nat.le_trans HB421.out.size hg427)
      have lo432 := hide (Nat.le_trans HB423.out.size hg427)
      clear hg427
      have HB433 := hide (below_then HB421.out hb426)
      have HB434 := hide (below_then HB423.out hb426)
      clear hb426 HB421 HB423
      have HB436 : Hid (Below w425.heap.size w425 w425) := Below.refl _ _
      refine seg_nil (hK414 _ _ ?_)
      clear hK414 K414 QK414
      have hM437 := hM429.cut7 (t1 := 0) (t2 := 2) (t3 := 3) (t4 := 4) (t5 := 10) (t6 := 11) (t7 := 12) rfl rfl rfl rfl rfl rfl rfl
      clear hM429
      have HB439 : Hid (Below w425.heap.size w425 w425) := Below.refl _ _
      have K12 := hide (KB428.out.on HB436.out)
      have KRJ := hide (HRJ.out.below HB433.out)
      have HO3 := hide (show OwnR _ _ _ _ _ _ _ from (HO1.out.below HB434.out))
      refine wp_mono_region (P := Try.prog) (by kernel_rfl) 8 9 (monoR_of (by kernel_rfl)) (T23 g424 gA g245 cA j t) (fun _ _ => none) hM437 (fun i v w w' h _ => h) (fun i v w _ b hb => (by cases hb)) (fun i o hi ho a w' f hb hM hd Kc hK => ?_) (fun fuel a w' f hf hJ => ?_)
      case refine_1 =>
        have hio : i = 0 ∨ i = 1 ∨ i = 2 ∨ i = 3 ∨ i = 4 ∨ i = 5 ∨ i = 6 ∨ i = 7 := by omega
        have k12 := K12.out.on hb
        have krj := KRJ.out.below hb
        clear K12 KRJ HO3
        rcases hio with rfl | rfl | rfl | rfl | rfl | rfl | rfl | rfl
        · have ho2 := Option.some.inj ho
          subst ho2
          have hM2 := hM
          exact m_val (d := 118) ho hM2 (.inl rfl) rfl ((ev_fldw (m := 2) rfl rfl (fun w => by simp [go_sem])) a _ hM2) (hK _ _ rfl (Below.refl _ _) (fun b hb => (by cases hb)))
        · have ho2 := Option.some.inj ho
          subst ho2
          obtain ⟨h0, e0⟩ := hd 0 (m_dep (by kernel_rfl))
          rw [show f 0 = .pointer (some ⟨g424, 2, none⟩) from e0] at h0
          have hM2 := h0
          exact m_val (d := 119) ho hM2 (.inl rfl) rfl ((ev_load1 (v := .slice (some ⟨gA, 0, none⟩) 8 cA) rfl rfl (k12.rng.at_ (m := 2) rfl) (isAgg_no Try.underlying24 rfl)) a _ hM2) (hK _ _ rfl (Below.refl _ _) (fun b hb => (by cases hb)))
        · have ho2 := Option.some.inj ho
          subst ho2
          have hM2 := hM
          exact m_val (d := 120) ho hM2 (.inl rfl) rfl ((ev_move (.inl rfl) rfl) a _ hM2) (hK _ _ rfl (Below.refl _ _) (fun b hb => (by cases hb)))
        · have ho2 := Option.some.inj ho
          subst ho2
          have hM2 := hM
          exact m_val (d := 121) ho hM2 (.inl rfl) rfl ((ev_move (.inl rfl) rfl) a _ hM2) (hK _ _ rfl (Below.refl _ _) (fun b hb => (by cases hb)))
        · have ho2 := Option.some.inj ho
          subst ho2
          have hM2 := hM
          exact m_val (d := 122) ho hM2 (.inl rfl) rfl ((ev_move (.inl rfl) rfl) a _ hM2) (hK _ _ rfl (Below.refl _ _) (fun b hb => (by cases hb)))
        · have ho2 := Option.some.inj ho
          subst ho2
          obtain ⟨h3, e3⟩ := hd 3 (m_dep (by kernel_rfl))
          rw [show f 3 = .slice (some ⟨g245, 0, none⟩) 7 7 from e3] at h3
          obtain ⟨h4, e4⟩ := hd 4 (m_dep (by kernel_rfl))
          rw [show f 4 = .int .i64 (j : Int) from e4] at h4
          have hM2 := (h3.more h4)
          exact m_val (d := 123) ho hM2 (.inl rfl) rfl ((ev_idx (b := g245) (k := j) (sz := 4) (p := j * 4) rfl rfl rfl Try.underlying24 (by kernel_rfl) (by omega) (by omega)) a _ hM2) (hK _ _ rfl (Below.refl _ _) (fun b hb => (by cases hb)))
        · have ho2 := Option.some.inj ho
          subst ho2
          obtain ⟨h5, e5⟩ := hd 5 (m_dep (by kernel_rfl))
          rw [show f 5 = .pointer (some ⟨g245, j * 4, none⟩) from e5] at h5
          have hM2 := h5
          exact m_val (d := 124) ho hM2 (.inl rfl) rfl ((ev_loadm (C := (txC t).toArray) rfl rfl (HTJ.out ▸ krj) Try.underlying67 rfl info_tx4) a _ hM2) (hK _ _ rfl (Below.refl _ _) (fun b hb => (by cases hb)))
        · have ho2 := Option.some.inj ho
          subst ho2
          obtain ⟨h1, e1⟩ := hd 1 (m_dep (by kernel_rfl))
          rw [show f 1 = .slice (some ⟨gA, 0, none⟩) 8 cA from e1] at h1
          obtain ⟨h2, e2⟩ := hd 2 (m_dep (by kernel_rfl))
          rw [show f 2 = .int .i64 (j : Int) from e2] at h2
          have hM2 := (h1.more h2)
          exact m_val (d := 125) ho hM2 (.inl rfl) rfl ((ev_idx (b := gA) (k := j) (sz := 4) (p := j * 4) rfl rfl rfl Try.underlying24 (by kernel_rfl) (by omega) (by omega)) a _ hM2) (hK _ _ rfl (Below.refl _ _) (fun b hb => (by cases hb)))
      obtain ⟨fuel, rfl⟩ : ∃ q, fuel = q + 1 := ⟨fuel - 1, by omega⟩
      obtain ⟨h6, e6⟩ := hJ.val 6 (by omega) trivial
      obtain ⟨h7, e7⟩ := hJ.val 7 (by omega) trivial
      rw [show f 6 = .agg (txC t).toArray from e6] at h6
      rw [show f 7 = .pointer (some ⟨gA, j * 4, none⟩) from e7] at h7
      have hMx := h6.more h7
      refine m_putown (q := 8) (C := (txC t).toArray) rfl (by kernel_rfl) hMx rfl rfl rfl rfl rfl (own_later HO3.out hJ.below) (by show j * 4 + 4 ≤ 8 * 4; omega) info_tx4 (one_tx _) (fun w441 kd hg => m_done (by kernel_rfl) ⟨rfl, ?_⟩)
      rw [show (txC t).toArray.toList = txC t from rfl, putR_txs (by rw [tL_len]; omega)] at kd
      have HS12 := hide (show Sl _ _ _ _ _ from Sl.of_own kd)
      have KB12 := hide ((K12.out.on hJ.below).grown hg (Ne.symm (own_blk_ne (own_later HO3.out hJ.below) (K12.out.on hJ.below) (by decide))))
      have HB442 := hide (below_grown_own (below_then HB433.out hJ.below) (own_later HO3.out hJ.below) hg)
      have hM440 := hMx.cut7 (t1 := 0) (t2 := 2) (t3 := 3) (t4 := 4) (t5 := 10) (t6 := 11) (t7 := 12) rfl rfl rfl rfl rfl rfl rfl
      clear hMx h6 h7 e6 e7 hJ kd hg hf K12 KRJ HO3 HO1 hM437 HB433 HB434 HB436 HB439 KB428
      have HB444 : Hid (Below w441.heap.size w441 w441) := Below.refl _ _
      refine region_then fun K445 QK445 hK445 => ?_
      refine s_val hM440 (.inl rfl) rfl rfl (ev_move (.inl rfl) rfl) (fun a447 hM446 => ?_)
      clear hM440
      refine s_val hM446 (.inl rfl) rfl rfl (ev_move (.inl rfl) rfl) (fun a449 hM448 => ?_)
      clear hM446
      refine s_val hM448 (.inl rfl) rfl rfl (ev_idx (b := g245) (k := j) (sz := 4) (p := j * 4) rfl rfl rfl Try.underlying24 (by kernel_rfl) hlt (by first | rfl | omega)) (fun a451 hM450 => ?_)
      clear hM448
      refine s_val hM450 (.inl rfl) rfl rfl (ev_loadm rfl rfl (HRJ.out.below HB442.out) Try.underlying67 rfl (by rw [HTJ.out]; exact info_tx4)) (fun a453 hM452 => ?_)
      clear hM450
      refine s_call hM452 (.inl rfl) rfl rfl (f := 37) (args := #[.agg TJ]) (ev_call hM452 rfl rfl rfl (fun w => by simp [go_sem]) _) (batch_TxA HTJ.out _ hbad.out.2 (hide hbad.out.1)) (fun e w454 hp => ?_)
      obtain ⟨rfl, hb455⟩ := hp
      refine ⟨_, rfl, fun a457 hM456 => ?_⟩
      clear hM452
      have HB458 := hide (below_then HB442.out hb455)
      have HB459 := hide (below_then HB444.out hb455)
      clear hb455 HB442 HB444
      refine s_call hM456 (.inl rfl) rfl rfl (f := 18) (args := #[.int .i64 1]) (ev_call hM456 rfl rfl rfl (fun w => by simp [go_sem]) _) (law4_num _ _) (fun e w460 hp => ?_)
      obtain ⟨rfl, rfl⟩ := hp
      refine ⟨_, rfl, fun a463 hM462 => ?_⟩
      clear hM456
      refine s_val hM462 (.inl rfl) rfl rfl (ev_bin rfl rfl rfl g_int (b_neq (b := false) (by decide))) (fun a465 hM464 => ?_)
      clear hM462
      refine s_val hM464 (.inl rfl) rfl rfl (ev_move (.inl rfl) rfl) (fun a467 hM466 => ?_)
      clear hM464
      refine s_val hM466 (.inr ⟨_, _, _, rfl, rfl, rfl⟩) rfl rfl (ev_loadm rfl rfl (KB12.out.on HB459.out).rng Try.underlying26 rfl info_bat3) (fun a469 hM468 => ?_)
      clear hM466
      refine s_call hM468 (.inr ⟨_, _, _, rfl, rfl, rfl⟩) rfl rfl (f := 40) (args := #[.agg ((bC 16 1099511627776 (some ⟨gA, 0, none⟩) 8 cA))]) (ev_call hM468 rfl rfl rfl (fun w => by simp [go_sem]) _) (batch_Check 16 1099511627776 _ (HS12.out.below HB459.out) (by decide) (sm_bad hbad.out.2).z (hide (may_bad (by omega) hbad.out.1))) (fun e w470 hp => ?_)
      obtain ⟨rfl, hb471⟩ := hp
      refine ⟨_, rfl, fun a473 hM472 => ?_⟩
      clear hM468
      have HB474 := hide (below_then HB458.out hb471)
      have HB475 := hide (below_then HB459.out hb471)
      clear hb471 HB458 HB459
      refine s_call hM472 (.inr ⟨_, _, _, rfl, rfl, rfl⟩) rfl rfl (f := 18) (args := #[.int .i64 1]) (ev_call hM472 rfl rfl rfl (fun w => by simp [go_sem]) _) (law4_num _ _) (fun e w476 hp => ?_)
      obtain ⟨rfl, rfl⟩ := hp
      refine ⟨_, rfl, fun a479 hM478 => ?_⟩
      clear hM472
      refine s_val hM478 (.inr ⟨_, _, _, rfl, rfl, rfl⟩) rfl rfl (ev_bin rfl rfl rfl g_int (b_neq (b := false) (by decide))) (fun a481 hM480 => ?_)
      clear hM478
      refine s_val hM480 (.inl rfl) rfl rfl (ev_pick rfl rfl rfl) (fun a483 hM482 => ?_)
      clear hM480
      refine seg_nil (hK445 _ _ ?_)
      clear hK445 K445 QK445
      have hM484 := hM482.cut7 (t1 := 0) (t2 := 2) (t3 := 3) (t4 := 4) (t5 := 10) (t6 := 11) (t7 := 138) rfl rfl rfl rfl rfl rfl rfl
      clear hM482
      refine wp_cond_false (hM484.ev (t := 138) rfl) ?_
      refine wp_skip ?_
      refine inb_n ?_
      refine hK413 _ _ ?_
      refine region_last fun K485 QK485 hK485 => ?_
      refine s_val hM484 (.inl rfl) rfl rfl (ev_move (.inl rfl) rfl) (fun a487 hM486 => ?_)
      clear hM484
      refine s_val hM486 (.inl rfl) rfl rfl (ev_bin rfl rfl rfl g_int (b_add (r := ((j + 1 : Nat) : Int)) (by omega) (by omega))) (fun a489 hM488 => ?_)
      clear hM486
      refine s_val hM488 (.inl rfl) rfl rfl (ev_move (.inr rfl) rfl) (fun a491 hM490 => ?_)
      clear hM488
      refine seg_nil (hK485 _ _ ?_)
      clear hK485 K485 QK485
      have hM492 := hM490.cut6 (t1 := 0) (t2 := 2) (t3 := 3) (t4 := 4) (t5 := 10) (t6 := 11) rfl rfl rfl rfl rfl rfl
      clear hM490
      have hM493 := hM492.cut6 (t1 := 11) (t2 := 0) (t3 := 2) (t4 := 3) (t5 := 4) (t6 := 10) rfl rfl rfl rfl rfl rfl
      clear hM492
      exact ⟨7 - (j + 1), by omega, j + 1, rfl, hM493, HB474, (show Hid (j + 1 ≤ 7) from hlt)⟩
    case neg =>
      refine region_then fun K494 QK494 hK494 => ?_
      refine s_val hM399 (.inl rfl) rfl rfl (ev_move (.inl rfl) rfl) (fun a496 hM495 => ?_)
      clear hM399
      refine s_val hM495 (.inl rfl) rfl rfl (ev_move (.inl rfl) rfl) (fun a498 hM497 => ?_)
      clear hM495
      refine s_val hM497 (.inl rfl) rfl rfl (ev_len rfl rfl Try.underlying24) (fun a500 hM499 => ?_)
      clear hM497
      refine s_val hM499 (.inl rfl) rfl rfl (ev_bin rfl rfl rfl g_int (b_lss (b := false) (by rw [decide_eq_false_iff_not]; omega))) (fun a502 hM501 => ?_)
      clear hM499
      refine seg_nil (hK494 _ _ ?_)
      clear hK494 K494 QK494
      have hM503 := hM501.cut7 (t1 := 0) (t2 := 2) (t3 := 3) (t4 := 4) (t5 := 10) (t6 := 11) (t7 := 113) rfl rfl rfl rfl rfl rfl rfl
      clear hM501
      refine wp_cond_false (hM503.ev (t := 113) rfl) ?_
      refine wp_exit ?_
      repeat (with_reducible refine th_e ?_)
      refine inb_e ?_
      refine hK386 _ _ ?_
      have HS8_ := hide (HS8.out.below HB400.out)
      have KB504 := hide (KB387.out.on HB400.out)
      have KB505 := hide (KB388.out.on HB400.out)
      have HB00_ := hide (below_then HB00.out HB400.out)
      clear HS8 KB387 KB388 KB389 HB400 HB00
      have HS8 := HS8_
      clear HS8_
      have HB00 := HB00_
      clear HB00_
      have HB507 : Hid (Below w397.heap.size w397 w397) := Below.refl _ _
      clear hlt HJ7
      refine wp_mono_region (P := Try.prog) (by kernel_rfl) 12 16 (monoR_of (by kernel_rfl)) (T26 w397 (bC 16 1099511627776 AL 8 cL)) bo26 hM503 T26.below T26.lt (fun i o hi ho a w' f hb hM hd Kc hK => ?_) (fun fuel a w' f hf hJ => ?_)
      case refine_1 =>
        have hio : i = 0 ∨ i = 1 ∨ i = 2 ∨ i = 3 ∨ i = 4 ∨ i = 5 ∨ i = 6 ∨ i = 7 ∨ i = 8 ∨ i = 9 ∨ i = 10 ∨ i = 11 := by omega
        have k4 := KB505.out.on hb
        have hs8 := HS8.out.below hb
        rcases hio with rfl | rfl | rfl | rfl | rfl | rfl | rfl | rfl | rfl | rfl | rfl | rfl
        · have ho2 := Option.some.inj ho
          subst ho2
          exact m_val (d := 139) ho hM (.inl rfl) rfl (ev_loadm (C := (bC 16 1099511627776 AL 8 cL)) rfl rfl k4.rng Try.underlying26 rfl info_bat3 a _ hM) (hK _ _ rfl (Below.refl _ _) (fun b hb => (by cases hb)))
        · have ho2 := Option.some.inj ho
          subst ho2
          obtain ⟨h1, e1⟩ := hd 0 (m_dep (by kernel_rfl))
          rw [show f 0 = .agg (bC 16 1099511627776 AL 8 cL) from e1] at h1
          refine m_call (d := 140) (f := 39) (args := #[.agg (bC 16 1099511627776 AL 8 cL)]) ho h1 (.inl rfl) rfl (ev_call h1 rfl rfl rfl (fun w => by simp [go_sem]) _) (ref0_CopyBatch (c := cL) 16 1099511627776 _ hs8 (by decide)) (fun e w2 hp => ?_)
          obtain ⟨v1, rfl, o1, hb1⟩ := hp
          obtain ⟨gA, cA, rfl, hgA, _⟩ := o1.form (by decide)
          exact ⟨_, rfl, hK _ _ ⟨_, _, rfl, own_mono o1 hb.size⟩ hb1 (fun b hbb => by injection hbb with hbb; subst hbb; exact hgA)⟩
        · have ho2 := Option.some.inj ho
          subst ho2
          exact m_val (d := 141) ho hM (.inl rfl) rfl (ev_loadm (C := (bC 16 1099511627776 AL 8 cL)) rfl rfl k4.rng Try.underlying26 rfl info_bat3 a _ hM) (hK _ _ rfl (Below.refl _ _) (fun b hb => (by cases hb)))
        · have ho2 := Option.some.inj ho
          subst ho2
          obtain ⟨h1, e1⟩ := hd 2 (m_dep (by kernel_rfl))
          rw [show f 2 = .agg (bC 16 1099511627776 AL 8 cL) from e1] at h1
          refine m_call (d := 142) (f := 39) (args := #[.agg (bC 16 1099511627776 AL 8 cL)]) ho h1 (.inl rfl) rfl (ev_call h1 rfl rfl rfl (fun w => by simp [go_sem]) _) (ref0_CopyBatch (c := cL) 16 1099511627776 _ hs8 (by decide)) (fun e w2 hp => ?_)
          obtain ⟨v1, rfl, o1, hb1⟩ := hp
          obtain ⟨gA, cA, rfl, hgA, _⟩ := o1.form (by decide)
          exact ⟨_, rfl, hK _ _ ⟨_, _, rfl, own_mono o1 hb.size⟩ hb1 (fun b hbb => by injection hbb with hbb; subst hbb; exact hgA)⟩
        · have ho2 := Option.some.inj ho
          subst ho2
          exact m_val (d := 143) ho hM (.inl rfl) rfl (ev_loadm (C := (bC 16 1099511627776 AL 8 cL)) rfl rfl k4.rng Try.underlying26 rfl info_bat3 a _ hM) (hK _ _ rfl (Below.refl _ _) (fun b hb => (by cases hb)))
        · have ho2 := Option.some.inj ho
          subst ho2
          obtain ⟨h1, e1⟩ := hd 4 (m_dep (by kernel_rfl))
          rw [show f 4 = .agg (bC 16 1099511627776 AL 8 cL) from e1] at h1
          refine m_call (d := 144) (f := 39) (args := #[.agg (bC 16 1099511627776 AL 8 cL)]) ho h1 (.inl rfl) rfl (ev_call h1 rfl rfl rfl (fun w => by simp [go_sem]) _) (ref0_CopyBatch (c := cL) 16 1099511627776 _ hs8 (by decide)) (fun e w2 hp => ?_)
          obtain ⟨v1, rfl, o1, hb1⟩ := hp
          obtain ⟨gA, cA, rfl, hgA, _⟩ := o1.form (by decide)
          exact ⟨_, rfl, hK _ _ ⟨_, _, rfl, own_mono o1 hb.size⟩ hb1 (fun b hbb => by injection hbb with hbb; subst hbb; exact hgA)⟩
        · have ho2 := Option.some.inj ho
          subst ho2
          exact m_val (d := 145) ho hM (.inl rfl) rfl (ev_loadm (C := (bC 16 1099511627776 AL 8 cL)) rfl rfl k4.rng Try.underlying26 rfl info_bat3 a _ hM) (hK _ _ rfl (Below.refl _ _) (fun b hb => (by cases hb)))
        · have ho2 := Option.some.inj ho
          subst ho2
          obtain ⟨h1, e1⟩ := hd 6 (m_dep (by kernel_rfl))
          rw [show f 6 = .agg (bC 16 1099511627776 AL 8 cL) from e1] at h1
          refine m_call (d := 146) (f := 39) (args := #[.agg (bC 16 1099511627776 AL 8 cL)]) ho h1 (.inl rfl) rfl (ev_call h1 rfl rfl rfl (fun w => by simp [go_sem]) _) (ref0_CopyBatch (c := cL) 16 1099511627776 _ hs8 (by decide)) (fun e w2 hp => ?_)
          obtain ⟨v1, rfl, o1, hb1⟩ := hp
          obtain ⟨gA, cA, rfl, hgA, _⟩ := o1.form (by decide)
          exact ⟨_, rfl, hK _ _ ⟨_, _, rfl, own_mono o1 hb.size⟩ hb1 (fun b hbb => by injection hbb with hbb; subst hbb; exact hgA)⟩
        · have ho2 := Option.some.inj ho
          subst ho2
          exact m_val (d := 13) ho hM (.inl rfl) rfl (ev_alloc rfl alloc_bat) (hK _ _ ⟨_, rfl, hb.size, Blk.new _ _ _⟩ (below_alloc_ _ _) (fun b hbb => by injection hbb with hbb; subst hbb; exact Nat.le_refl _))
        · have ho2 := Option.some.inj ho
          subst ho2
          exact m_val (d := 14) ho hM (.inl rfl) rfl (ev_alloc rfl alloc_bat) (hK _ _ ⟨_, rfl, hb.size, Blk.new _ _ _⟩ (below_alloc_ _ _) (fun b hbb => by injection hbb with hbb; subst hbb; exact Nat.le_refl _))
        · have ho2 := Option.some.inj ho
          subst ho2
          exact m_val (d := 15) ho hM (.inl rfl) rfl (ev_alloc rfl alloc_bat) (hK _ _ ⟨_, rfl, hb.size, Blk.new _ _ _⟩ (below_alloc_ _ _) (fun b hbb => by injection hbb with hbb; subst hbb; exact Nat.le_refl _))
        · have ho2 := Option.some.inj ho
          subst ho2
          exact m_val (d := 16) ho hM (.inl rfl) rfl (ev_alloc rfl alloc_bat) (hK _ _ ⟨_, rfl, hb.size, Blk.new _ _ _⟩ (below_alloc_ _ _) (fun b hbb => by injection hbb with hbb; subst hbb; exact Nat.le_refl _))
      obtain ⟨fuel, rfl⟩ : ∃ q, fuel = q + 4 := ⟨fuel - 4, by omega⟩
      obtain ⟨h1, A0, c0, e1, o0⟩ := hJ.val 1 (by omega) trivial
      obtain ⟨h3, A1, c1, e3, o1⟩ := hJ.val 3 (by omega) trivial
      obtain ⟨h5, A2, c2, e5, o2⟩ := hJ.val 5 (by omega) trivial
      obtain ⟨h7, A3, c3, e7, o3⟩ := hJ.val 7 (by omega) trivial
      obtain ⟨h8, p0, e8, hp0, k0⟩ := hJ.val 8 (by omega) trivial
      obtain ⟨h9, p1, e9, hp1, k1⟩ := hJ.val 9 (by omega) trivial
      obtain ⟨h10, p2, e10, hp2, k2⟩ := hJ.val 10 (by omega) trivial
      obtain ⟨h11, p3, e11, hp3, k3⟩ := hJ.val 11 (by omega) trivial
      have n01 : p0 ≠ p1 := fun e => by
        have h := hJ.ap 8 9 (by omega) (by omega) (by decide) trivial trivial p0 (by rw [e8]; rfl)
        rw [e9, e] at h
        exact h rfl
      have n02 : p0 ≠ p2 := fun e => by
        have h := hJ.ap 8 10 (by omega) (by omega) (by decide) trivial trivial p0 (by rw [e8]; rfl)
        rw [e10, e] at h
        exact h rfl
      have n03 : p0 ≠ p3 := fun e => by
        have h := hJ.ap 8 11 (by omega) (by omega) (by decide) trivial trivial p0 (by rw [e8]; rfl)
        rw [e11, e] at h
        exact h rfl
      have n12 : p1 ≠ p2 := fun e => by
        have h := hJ.ap 9 10 (by omega) (by omega) (by decide) trivial trivial p1 (by rw [e9]; rfl)
        rw [e10, e] at h
        exact h rfl
      have n13 : p1 ≠ p3 := fun e => by
        have h := hJ.ap 9 11 (by omega) (by omega) (by decide) trivial trivial p1 (by rw [e9]; rfl)
        rw [e11, e] at h
        exact h rfl
      have n23 : p2 ≠ p3 := fun e => by
        have h := hJ.ap 10 11 (by omega) (by omega) (by decide) trivial trivial p2 (by rw [e10]; rfl)
        rw [e11, e] at h
        exact h rfl
      have a02 : ∀ b, (Value.slice A0 8 c0).ownBlock = some b → (Value.slice A2 8 c2).ownBlock ≠ some b := fun b hb => by
        have h := hJ.ap 1 5 (by omega) (by omega) (by decide) trivial trivial b (by rw [e1]; exact hb)
        rw [e5] at h
        exact h
      have a03 : ∀ b, (Value.slice A0 8 c0).ownBlock = some b → (Value.slice A3 8 c3).ownBlock ≠ some b := fun b hb => by
        have h := hJ.ap 1 7 (by omega) (by omega) (by decide) trivial trivial b (by rw [e1]; exact hb)
        rw [e7] at h
        exact h
      rw [e1] at h1
      rw [e3] at h3
      rw [e5] at h5
      rw [e7] at h7
      rw [e8] at h8
      rw [e9] at h9
      rw [e10] at h10
      rw [e11] at h11
      have hMx := (((((((h1.more h3).more h5).more h7).more h8).more h9).more h10).more h11)
      have hJB := hJ.below
      clear hJ h1 e1 h3 e3 h5 e5 h7 e7 h8 e8 h9 e9 h10 e10 h11 e11
      obtain ⟨W2, hW2⟩ : ∃ x, x = w' := ⟨_, rfl⟩
      rw [← hW2] at hJB o0 o1 o2 o3 k0 k1 k2 k3
      rw [← hW2]
      clear hW2 w'
      have HQ0 : QB W2 w397.heap.size p0 p1 p2 p3 zB3 zB3 zB3 zB3 (.slice A0 8 c0) 8 (tL 8) (.slice A2 8 c2) (.slice A3 8 c3) := ⟨k0, k1, k2, k3, o0, o2, o3, a02, a03, ⟨n01, n02, n03, n12, n13, n23⟩, ⟨hp0, hp1, hp2, hp3⟩⟩
      clear k0 k1 k2 k3 o0 o1 o2 o3 a02 a03 n01 n02 n03 n12 n13 n23
      refine m_putrow (C := (bC 16 1099511627776 A0 8 c0)) 12 rfl (by kernel_rfl) hMx rfl rfl rfl rfl rfl HQ0.k1 info_bat3 rfl one_bC (fun w508 kd hg => ?_)
      have HQ1 := HQ0.put1 kd hg
      have hJB0 := hJB.grown hg hJB.size (fun b hb => by injection hb with hb; subst hb; exact hp0)
      clear kd hg HQ0 hJB
      refine m_putrow (C := (bC 16 1099511627776 A1 8 c1)) 13 rfl (by kernel_rfl) hMx rfl rfl rfl rfl rfl HQ1.k2 info_bat3 rfl one_bC (fun w509 kd hg => ?_)
      have HQ2 := HQ1.put2 kd hg
      have hJB1 := hJB0.grown hg hJB0.size (fun b hb => by injection hb with hb; subst hb; exact hp1)
      clear kd hg HQ1 hJB0
      refine m_putrow (C := (bC 16 1099511627776 A2 8 c2)) 14 rfl (by kernel_rfl) hMx rfl rfl rfl rfl rfl HQ2.k3 info_bat3 rfl one_bC (fun w510 kd hg => ?_)
      have HQ3 := HQ2.put3 kd hg
      have hJB2 := hJB1.grown hg hJB1.size (fun b hb => by injection hb with hb; subst hb; exact hp2)
      clear kd hg HQ2 hJB1
      refine m_putrow (C := (bC 16 1099511627776 A3 8 c3)) 15 rfl (by kernel_rfl) hMx rfl rfl rfl rfl rfl HQ3.k4 info_bat3 rfl one_bC (fun w511 kd hg => ?_)
      have HQ4 := HQ3.put4 kd hg
      have hJB3 := hJB2.grown hg hJB2.size (fun b hb => by injection hb with hb; subst hb; exact hp3)
      clear kd hg HQ3 hJB2
      refine m_done (by kernel_rfl) ⟨rfl, ?_⟩
      have HQ := hide HQ4
      have HB513 := hide hJB3
      have hM512 := hMx.cut7 (t1 := 0) (t2 := 2) (t3 := 3) (t4 := 13) (t5 := 14) (t6 := 15) (t7 := 16) rfl rfl rfl rfl rfl rfl rfl
      clear hMx HQ4 hJB3 hf HS8 hM503 HB507 KB505
      have HB515 : Hid (Below w511.heap.size w511 w511) := Below.refl _ _
      have KQ0 := hide HQ.out.k1
      have KQ1 := hide HQ.out.k2
      have KQ2 := hide HQ.out.k3
      have KQ3 := hide HQ.out.k4
      refine region_then fun K516 QK516 hK516 => ?_
      refine s_val hM512 (.inl rfl) rfl rfl (ev_fldw (m := 2) rfl rfl (fun w => by simp [go_sem])) (fun a518 hM517 => ?_)
      clear hM512
      refine s_val hM517 (.inl rfl) rfl rfl (ev_load1 (v := .slice A0 8 c0) rfl rfl ((KQ0.out.on HB515.out).rng.at_ (m := 2) rfl) (isAgg_no Try.underlying24 rfl)) (fun a520 hM519 => ?_)
      clear hM517
      refine s_val hM519 (.inl rfl) rfl rfl (ev_loadm rfl rfl (KB504.out.on HB513.out).rng Try.underlying67 rfl (by rw [HTT.out]; exact info_tx4)) (fun a522 hM521 => ?_)
      clear hM519
      refine s_alloc (e := 67) hM521 (.inl rfl) rfl rfl (V := fun g => .slice (some ⟨g, 0, none⟩) 1 1) (ev_bsg (C := TT) hM521 rfl rfl (fun w => by rw [HTT.out]; kernel_rfl)) (fun g523 a529 w524 hM528 KB527_ hb525 hg526 => ?_)
      have KB527 := hide KB527_
      clear hM521 KB527_
      clear hg526
      have HB530 := hide (below_then HB513.out hb525)
      have HB531 := hide (below_then HB515.out hb525)
      clear hb525 HB513 HB515
      have HB533 : Hid (Below w524.heap.size w524 w524) := Below.refl _ _
      obtain ⟨i0, hi, hz0, hz1, hz2⟩ := info_parts Try.infoTx
      have hQ := (HQ.out.below HB531.out)
      refine s_append hM528 (.inl rfl) rfl rfl rfl _ 67 i0 _ 4 48 Try.underlying24 hi hz0 hz1 hz2 rfl (by decide) 8 (txsC (tL 8)) rfl hQ.o1 ⟨g523, 0, none⟩ 1 1 TT.toList rfl (by rw [HTT.out]; rfl) (news_row (KB527.out.on HB533.out)) (by rw [HTT.out]; exact one_tx _) (by unfold maxLen; omega) (by omega) HB530.out.size (fun V2 a535 w536 hM534 ho hgr hat => ?_)
      obtain ⟨A9, c9, rfl⟩ := own_slice ho
      rw [HTT.out] at ho
      have HQ2 := hide (hQ.app (n' := 9) (l1' := tL 8 ++ [tT]) (V1' := .slice A9 9 c9) (by rw [txsC_append]; exact ho) hgr hat)
      have HB537 := hide (below_grown_own HB530.out hQ.o1 hgr)
      clear hQ ho hgr hat hi hz0 hz1 hz2 HQ hM528 HB530 HB531 HB533
      clear KQ0 KQ1 KQ2 KQ3
      have HQ := HQ2
      clear HQ2
      have HB539 : Hid (Below w536.heap.size w536 w536) := Below.refl _ _
      have KQ0 := hide HQ.out.k1
      have KQ1 := hide HQ.out.k2
      have KQ2 := hide HQ.out.k3
      have KQ3 := hide HQ.out.k4
      refine s_val hM534 (.inl rfl) rfl rfl (ev_fldw (m := 2) rfl rfl (fun w => by simp [go_sem])) (fun a541 hM540 => ?_)
      clear hM534
      have hQ := (HQ.out.below HB539.out)
      refine s_put (v := .slice A9 9 c9) hM540 rfl rfl rfl rfl rfl hQ.k1 (by rw [bC_sz]; decide) (st_slice Try.underlying24 (by kernel_rfl)) (fun w542 kd hg => ?_)
      rw [bC_set2] at kd
      have HQ2 := hide (hQ.put1 kd hg)
      have HB543 := hide (HB537.out.grown hg HB537.out.size (fun b hb => by injection hb with hb; subst hb; exact hQ.lo.1))
      clear hQ kd hg HQ HB537 HB539
      clear KQ0 KQ1 KQ2 KQ3
      have HQ := HQ2
      clear HQ2
      have HB545 : Hid (Below w542.heap.size w542 w542) := Below.refl _ _
      have KQ0 := hide HQ.out.k1
      have KQ1 := hide HQ.out.k2
      have KQ2 := hide HQ.out.k3
      have KQ3 := hide HQ.out.k4
      refine seg_nil (hK516 _ _ ?_)
      clear hK516 K516 QK516
      have hM546 := hM540.cut7 (t1 := 0) (t2 := 2) (t3 := 3) (t4 := 13) (t5 := 14) (t6 := 15) (t7 := 16) rfl rfl rfl rfl rfl rfl rfl
      clear hM540
      refine region_then fun K547 QK547 hK547 => ?_
      refine s_val hM546 (.inl rfl) rfl rfl (ev_fldw (m := 2) rfl rfl (fun w => by simp [go_sem])) (fun a549 hM548 => ?_)
      clear hM546
      have hQ := (HQ.out.below HB545.out)
      refine s_put (v := .slice none 0 0) hM548 rfl rfl rfl rfl rfl hQ.k2 (by rw [bC_sz]; decide) (st_slice Try.underlying24 (by kernel_rfl)) (fun w550 kd hg => ?_)
      rw [bC_set2] at kd
      have HQ2 := hide (hQ.put2 kd hg)
      have HB551 := hide (HB543.out.grown hg HB543.out.size (fun b hb => by injection hb with hb; subst hb; exact hQ.lo.2.1))
      clear hQ kd hg HQ HB543 HB545
      clear KQ0 KQ1 KQ2 KQ3
      have HQ := HQ2
      clear HQ2
      have HB553 : Hid (Below w550.heap.size w550 w550) := Below.refl _ _
      have KQ0 := hide HQ.out.k1
      have KQ1 := hide HQ.out.k2
      have KQ2 := hide HQ.out.k3
      have KQ3 := hide HQ.out.k4
      refine seg_nil (hK547 _ _ ?_)
      clear hK547 K547 QK547
      have hM554 := hM548.cut7 (t1 := 0) (t2 := 2) (t3 := 3) (t4 := 13) (t5 := 14) (t6 := 15) (t7 := 16) rfl rfl rfl rfl rfl rfl rfl
      clear hM548
      refine region_then fun K555 QK555 hK555 => ?_
      refine s_val hM554 (.inl rfl) rfl rfl (ev_fldw (m := 0) rfl rfl (fun w => by simp [go_sem])) (fun a557 hM556 => ?_)
      clear hM554
      refine s_val hM556 (.inl rfl) rfl rfl (ev_load1 (v := .int .i64 16) rfl rfl ((KQ2.out.on HB553.out).rng.at_ (m := 0) rfl) (isAgg_no Try.underlying3 rfl)) (fun a559 hM558 => ?_)
      clear hM556
      refine s_val hM558 (.inl rfl) rfl rfl (ev_bin rfl rfl rfl g_int (b_add (r := 17) (by decide) (by decide))) (fun a561 hM560 => ?_)
      clear hM558
      refine s_val hM560 (.inl rfl) rfl rfl (ev_fldw (m := 0) rfl rfl (fun w => by simp [go_sem])) (fun a563 hM562 => ?_)
      clear hM560
      have hQ := (HQ.out.below HB553.out)
      refine s_put (v := .int .i64 17) hM562 rfl rfl rfl rfl rfl hQ.k3 (by rw [bC_sz]; decide) (st_int Try.underlying3 (by kernel_rfl)) (fun w564 kd hg => ?_)
      rw [bC_set0] at kd
      have HQ2 := hide (hQ.put3 kd hg)
      have HB565 := hide (HB551.out.grown hg HB551.out.size (fun b hb => by injection hb with hb; subst hb; exact hQ.lo.2.2.1))
      clear hQ kd hg HQ HB551 HB553
      clear KQ0 KQ1 KQ2 KQ3
      have HQ := HQ2
      clear HQ2
      have HB567 : Hid (Below w564.heap.size w564 w564) := Below.refl _ _
      have KQ0 := hide HQ.out.k1
      have KQ1 := hide HQ.out.k2
      have KQ2 := hide HQ.out.k3
      have KQ3 := hide HQ.out.k4
      refine seg_nil (hK555 _ _ ?_)
      clear hK555 K555 QK555
      have hM568 := hM562.cut7 (t1 := 0) (t2 := 2) (t3 := 3) (t4 := 13) (t5 := 14) (t6 := 15) (t7 := 16) rfl rfl rfl rfl rfl rfl rfl
      clear hM562
      refine region_then fun K569 QK569 hK569 => ?_
      refine s_val hM568 (.inl rfl) rfl rfl (ev_fldw (m := 1) rfl rfl (fun w => by simp [go_sem])) (fun a571 hM570 => ?_)
      clear hM568
      refine s_val hM570 (.inl rfl) rfl rfl (ev_load1 (v := .int .i64 1099511627776) rfl rfl ((KQ3.out.on HB567.out).rng.at_ (m := 1) rfl) (isAgg_no Try.underlying3 rfl)) (fun a573 hM572 => ?_)
      clear hM570
      refine s_val hM572 (.inl rfl) rfl rfl (ev_bin rfl rfl rfl g_int (b_add (r := 1099511627777) (by decide) (by decide))) (fun a575 hM574 => ?_)
      clear hM572
      refine s_val hM574 (.inl rfl) rfl rfl (ev_fldw (m := 1) rfl rfl (fun w => by simp [go_sem])) (fun a577 hM576 => ?_)
      clear hM574
      have hQ := (HQ.out.below HB567.out)
      refine s_put (v := .int .i64 1099511627777) hM576 rfl rfl rfl rfl rfl hQ.k4 (by rw [bC_sz]; decide) (st_int Try.underlying3 (by kernel_rfl)) (fun w578 kd hg => ?_)
      rw [bC_set1] at kd
      have HQ2 := hide (hQ.put4 kd hg)
      have HB579 := hide (HB565.out.grown hg HB565.out.size (fun b hb => by injection hb with hb; subst hb; exact hQ.lo.2.2.2))
      clear hQ kd hg HQ HB565 HB567
      clear KQ0 KQ1 KQ2 KQ3
      have HQ := HQ2
      clear HQ2
      have HB581 : Hid (Below w578.heap.size w578 w578) := Below.refl _ _
      have KQ0 := hide HQ.out.k1
      have KQ1 := hide HQ.out.k2
      have KQ2 := hide HQ.out.k3
      have KQ3 := hide HQ.out.k4
      refine seg_nil (hK569 _ _ ?_)
      clear hK569 K569 QK569
      have hM582 := hM576.cut7 (t1 := 0) (t2 := 2) (t3 := 3) (t4 := 13) (t5 := 14) (t6 := 15) (t7 := 16) rfl rfl rfl rfl rfl rfl rfl
      clear hM576
      refine region_then fun K583 QK583 hK583 => ?_
      refine s_val hM582 (.inl rfl) rfl rfl (ev_loadm rfl rfl (KQ0.out.on HB581.out).rng Try.underlying26 rfl info_bat3) (fun a585 hM584 => ?_)
      clear hM582
      refine s_call hM584 (.inl rfl) rfl rfl (f := 40) (args := #[.agg ((bC 16 1099511627776 A9 9 c9))]) (ev_call hM584 rfl rfl rfl (fun w => by simp [go_sem]) _) (batch_Check 16 1099511627776 _ (Sl.of_own (HQ.out.below HB581.out).o1) (by decide) (sm_9).z (hide may9)) (fun e w586 hp => ?_)
      obtain ⟨rfl, hb587⟩ := hp
      refine ⟨_, rfl, fun a589 hM588 => ?_⟩
      clear hM584
      have HB590 := hide (below_then HB579.out hb587)
      have HB591 := hide (below_then HB581.out hb587)
      clear hb587 HB579 HB581
      refine s_call hM588 (.inl rfl) rfl rfl (f := 18) (args := #[.int .i64 1]) (ev_call hM588 rfl rfl rfl (fun w => by simp [go_sem]) _) (law4_num _ _) (fun e w592 hp => ?_)
      obtain ⟨rfl, rfl⟩ := hp
      refine ⟨_, rfl, fun a595 hM594 => ?_⟩
      clear hM588
      refine s_val hM594 (.inl rfl) rfl rfl (ev_bin rfl rfl rfl g_int (b_eql (b := true) (by decide))) (fun a597 hM596 => ?_)
      clear hM594
      refine s_val hM596 (.inl rfl) rfl rfl (ev_move (.inl rfl) rfl) (fun a599 hM598 => ?_)
      clear hM596
      refine s_val hM598 (.inr ⟨_, _, _, rfl, rfl, rfl⟩) rfl rfl (ev_loadm rfl rfl (KQ1.out.on HB591.out).rng Try.underlying26 rfl info_bat3) (fun a601 hM600 => ?_)
      clear hM598
      refine s_call hM600 (.inr ⟨_, _, _, rfl, rfl, rfl⟩) rfl rfl (f := 40) (args := #[.agg ((bC 16 1099511627776 none 0 0))]) (ev_call hM600 rfl rfl rfl (fun w => by simp [go_sem]) _) (batch_Check (l := []) (c := 0) 16 1099511627776 _ Sl.nil_ (by decide) (fun t ht => by cases ht) (hide may0)) (fun e w602 hp => ?_)
      obtain ⟨rfl, hb603⟩ := hp
      refine ⟨_, rfl, fun a605 hM604 => ?_⟩
      clear hM600
      have HB606 := hide (below_then HB590.out hb603)
      have HB607 := hide (below_then HB591.out hb603)
      clear hb603 HB590 HB591
      refine s_call hM604 (.inr ⟨_, _, _, rfl, rfl, rfl⟩) rfl rfl (f := 18) (args := #[.int .i64 1]) (ev_call hM604 rfl rfl rfl (fun w => by simp [go_sem]) _) (law4_num _ _) (fun e w608 hp => ?_)
      obtain ⟨rfl, rfl⟩ := hp
      refine ⟨_, rfl, fun a611 hM610 => ?_⟩
      clear hM604
      refine s_val hM610 (.inr ⟨_, _, _, rfl, rfl, rfl⟩) rfl rfl (ev_bin rfl rfl rfl g_int (b_eql (b := true) (by decide))) (fun a613 hM612 => ?_)
      clear hM610
      refine s_val hM612 (.inl rfl) rfl rfl (ev_pick rfl rfl rfl) (fun a615 hM614 => ?_)
      clear hM612
      refine s_val hM614 (.inl rfl) rfl rfl (ev_move (.inl rfl) rfl) (fun a617 hM616 => ?_)
      clear hM614
      refine s_val hM616 (.inr ⟨_, _, _, rfl, rfl, rfl⟩) rfl rfl (ev_loadm rfl rfl (KQ2.out.on HB607.out).rng Try.underlying26 rfl info_bat3) (fun a619 hM618 => ?_)
      clear hM616
      refine s_call hM618 (.inr ⟨_, _, _, rfl, rfl, rfl⟩) rfl rfl (f := 40) (args := #[.agg ((bC 17 1099511627776 A2 8 c2))]) (ev_call hM618 rfl rfl rfl (fun w => by simp [go_sem]) _) (batch_Check 17 1099511627776 _ (Sl.of_own (HQ.out.below HB607.out).o3) (by decide) (sm_tL 8).z (hide may17)) (fun e w620 hp => ?_)
      obtain ⟨rfl, hb621⟩ := hp
      refine ⟨_, rfl, fun a623 hM622 => ?_⟩
      clear hM618
      have HB624 := hide (below_then HB606.out hb621)
      have HB625 := hide (below_then HB607.out hb621)
      clear hb621 HB606 HB607
      refine s_call hM622 (.inr ⟨_, _, _, rfl, rfl, rfl⟩) rfl rfl (f := 18) (args := #[.int .i64 1]) (ev_call hM622 rfl rfl rfl (fun w => by simp [go_sem]) _) (law4_num _ _) (fun e w626 hp => ?_)
      obtain ⟨rfl, rfl⟩ := hp
      refine ⟨_, rfl, fun a629 hM628 => ?_⟩
      clear hM622
      refine s_val hM628 (.inr ⟨_, _, _, rfl, rfl, rfl⟩) rfl rfl (ev_bin rfl rfl rfl g_int (b_eql (b := true) (by decide))) (fun a631 hM630 => ?_)
      clear hM628
      refine s_val hM630 (.inl rfl) rfl rfl (ev_pick rfl rfl rfl) (fun a633 hM632 => ?_)
      clear hM630
      refine s_val hM632 (.inl rfl) rfl rfl (ev_move (.inl rfl) rfl) (fun a635 hM634 => ?_)
      clear hM632
      refine s_val hM634 (.inr ⟨_, _, _, rfl, rfl, rfl⟩) rfl rfl (ev_loadm rfl rfl (KQ3.out.on HB625.out).rng Try.underlying26 rfl info_bat3) (fun a637 hM636 => ?_)
      clear hM634
      refine s_call hM636 (.inr ⟨_, _, _, rfl, rfl, rfl⟩) rfl rfl (f := 40) (args := #[.agg ((bC 16 1099511627777 A3 8 c3))]) (ev_call hM636 rfl rfl rfl (fun w => by simp [go_sem]) _) (batch_Check 16 1099511627777 _ (Sl.of_own (HQ.out.below HB625.out).o4) (by decide) (sm_tL 8).z (hide mayN1)) (fun e w638 hp => ?_)
      obtain ⟨rfl, hb639⟩ := hp
      refine ⟨_, rfl, fun a641 hM640 => ?_⟩
      clear hM636
      have HB642 := hide (below_then HB624.out hb639)
      have HB643 := hide (below_then HB625.out hb639)
      clear hb639 HB624 HB625
      refine s_call hM640 (.inr ⟨_, _, _, rfl, rfl, rfl⟩) rfl rfl (f := 18) (args := #[.int .i64 1]) (ev_call hM640 rfl rfl rfl (fun w => by simp [go_sem]) _) (law4_num _ _) (fun e w644 hp => ?_)
      obtain ⟨rfl, rfl⟩ := hp
      refine ⟨_, rfl, fun a647 hM646 => ?_⟩
      clear hM640
      refine s_val hM646 (.inr ⟨_, _, _, rfl, rfl, rfl⟩) rfl rfl (ev_bin rfl rfl rfl g_int (b_eql (b := true) (by decide))) (fun a649 hM648 => ?_)
      clear hM646
      refine s_val hM648 (.inl rfl) rfl rfl (ev_pick rfl rfl rfl) (fun a651 hM650 => ?_)
      clear hM648
      refine s_val hM650 (.inl rfl) rfl rfl (ev_move (.inl rfl) rfl) (fun a653 hM652 => ?_)
      clear hM650
      refine s_val hM652 (.inr ⟨_, _, _, rfl, rfl, rfl⟩) rfl rfl (ev_move (.inl rfl) rfl) (fun a655 hM654 => ?_)
      clear hM652
      refine s_val hM654 (.inr ⟨_, _, _, rfl, rfl, rfl⟩) rfl rfl (ev_len rfl rfl Try.underlying22) (fun a657 hM656 => ?_)
      clear hM654
      refine s_val hM656 (.inr ⟨_, _, _, rfl, rfl, rfl⟩) rfl rfl (ev_bin rfl rfl rfl g_int (b_geq (b := true) (by rw [decide_eq_true_eq]; omega))) (fun a659 hM658 => ?_)
      clear hM656
      refine s_val hM658 (.inl rfl) rfl rfl (ev_pick rfl rfl rfl) (fun a661 hM660 => ?_)
      clear hM658
      refine s_val hM660 (.inl rfl) rfl rfl (ev_move (.inl rfl) rfl) (fun a663 hM662 => ?_)
      clear hM660
      refine s_call hM662 (.inr ⟨_, _, _, rfl, rfl, rfl⟩) rfl rfl (f := 21) (args := #[]) (ev_call hM662 rfl rfl rfl (fun w => by simp [go_sem]) _) (law4_wakes _) (fun e w664 hp => ?_)
      obtain ⟨rfl, hb665⟩ := hp
      refine ⟨_, rfl, fun a667 hM666 => ?_⟩
      clear hM662
      have HB668 := hide (below_then HB642.out hb665)
      have HB669 := hide (below_then HB643.out hb665)
      clear hb665 HB642 HB643
      refine s_val hM666 (.inl rfl) rfl rfl (ev_pick rfl rfl rfl) (fun a671 hM670 => ?_)
      clear hM666
      refine s_val hM670 (.inl rfl) rfl rfl (ev_move (.inr rfl) rfl) (fun a673 hM672 => ?_)
      clear hM670
      refine seg_nil (hK583 _ _ ?_)
      clear hK583 K583 QK583
      have hM674 := hM672.cut1 (t1 := 2) rfl
      clear hM672
      refine wp_ret ?_
      repeat (with_reducible first | refine th_r ?_ | refine inb_r ?_ | refine js_r ?_)
      refine ret_of (t := 2) rfl hM674 rfl ?_
      exact ⟨rfl, below_then HB00.out HB668.out⟩
end Go.Proofs.Ytihpmaifcebpiaa
