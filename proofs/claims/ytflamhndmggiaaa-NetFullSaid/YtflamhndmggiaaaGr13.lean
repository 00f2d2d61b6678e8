/-
  Texts joined: words and contracts that later texts use; lemmas alone, no conditions of a statement.
-/
import Derived.Test.YtflamhndmggiaaaNtD
set_option linter.unusedVariables false
set_option linter.unusedSimpArgs false
/-
  Contracts of package net: Take.
-/
namespace Go.Proofs.Ytflamhndmggiaaa
open Go.RowKit

theorem ret2_of {P : Program} {a : Act} {n : Nat} {M : List (Nat × Value)} {w : World} {fn : Func} {R : Ending → World → Prop} {t s : Nat} {v u : Value} (hres : fn.results = #[.tmp t, .tmp s]) (hM : Frm a n M) (hl : lk M t = some v) (hl2 : lk M s = some u) (hR : R (.returned (.tuple #[v, u])) w) : bodyPost P fn R .ret a w :=
  bodyPost_ret (results_tmp2 hres _ _ _) hM.2.1 (by rw [show a.tmps.getD t undef = v from hM.ev hl, show a.tmps.getD s undef = u from hM.ev hl2]; exact hR)
theorem take_end {F : Nat → Prop} {w w1 w2 w3 : World} {g m gr i c : Nat} {rows : Int × Int → Option Value} {st : Int × Int → List (Value × List UInt8)} {q : Int × Int} {p : Value × List UInt8} (h : NtJ F w g m rows st) (hb : Below w.heap.size w w1) (hv : (rows q).getD nilV = .slice (some ⟨gr, 0, none⟩) (st q).length c) (hi : (st q)[i]? = some p)
    (ho : w2.ownsRow 0 28 1 (.slice (some ⟨gr, 0, none⟩) ((st q).length - 1) c) ((st q).length - 1) (((st q).map (·.1)).eraseIdx i)) (hc : Chg (fun b => b = gr) w1 w2) (hg : w2.grownBy w3 (some m)) (hm : Mq w3 m pairV (updF rows q (some (.slice (some ⟨gr, 0, none⟩) ((st q).length - 1) c)))) :
    ∃ V', NtJ (fun b => F b ∧ p.1.ownBlock ≠ some b) w3 g m (updF rows q (some V')) (updF st q ((st q).eraseIdx i)) ∧ w3.ownsRow 0 5 1 p.1 p.2.length (bytes8 p.2) ∧ Chg (RowG m ((rows q).getD nilV)) w w3 := by
  have h1 := h.below hb
  have hne : ((rows q).getD nilV).ownBlock ≠ some m := own_not_map (h1.own q) h1.mp
  have hgr : gr ≠ m := fun e => hne (by rw [hv, e]; rfl)
  have c1 : Chg (RowG m ((rows q).getD nilV)) w1 w2 := hc.mono (fun b e => by subst e; exact .inl (.inr (by rw [hv]; rfl)))
  have c3 := c1.then_grown hg (fun b e => by injection e with e; exact .inl (.inl e.symm))
  have o3 := own_at ho (fun b hb' => hg.block b (own_in ho hb') (fun e => by injection e with e; injection hb' with hb'; exact hgr (hb'.trans e)))
  obtain ⟨k1, k2⟩ := h1.take q hi c3 hm o3 (fun b hb' => by rw [hv]; exact hb')
  exact ⟨_, k1, k2, (Chg.of_below (F := RowG m ((rows q).getD nilV)) hb).trans c3 (fun _ h => .inl h)⟩
theorem vals_one {F : Nat → Prop} {w : World} {g m : Nat} {rows : Int × Int → Option Value} {st : Int × Int → List (Value × List UInt8)} (h : NtJ F w g m rows st) (q : Int × Int) : ∀ u ∈ (st q).map (·.1), u.oneCell' = true := fun u hu => by
  obtain ⟨p, hp, rfl⟩ := List.mem_map.1 hu
  exact one_own (h.el q p hp) _ (by simp)
theorem look_row {w : World} {m : Nat} {rows : Int × Int → Option Value} {q : Int × Int} {v : Value} (h : Mq w m pairV rows) (hv : (rows q).getD nilV = v) : (Instr.lookup 111 (.map (some m)) (pairV q) false).run Try.prog w = .ok v w := by
  have := h.mp.look keys_way under_ways (zero_rows w) q false
  rw [hv] at this
  exact this

set_option maxRecDepth 100000 in
set_option maxHeartbeats 4000000 in
theorem net_Take_no {F : Nat → Prop} {w : World} {g mb : Nat} {rows : Int × Int → Option Value} {st : Int × Int → List (Value × List UInt8)} (a b : Int) (h : NtJ F w g mb rows st) (k : Int) (hk : k < 0 ∨ ((st (a, b)).length : Int) ≤ k) :
    Calls Try.prog 46 #[.pointer (some ⟨g, 0, none⟩), .int .i64 a, .int .i64 b, .int .i64 k] w fun e w' => e = .returned (.tuple #[.slice none 0 0, .int .i64 3]) ∧ Below w.heap.size w w' := by
  have HKG := hide h.k
  have HNJ := hide h
  clear h
  go_enter Try.func46, Try.ntmps46
  refine act_off 41 [(0, .pointer (some ⟨g, 0, none⟩)), (1, .int .i64 a), (2, .int .i64 b), (3, .int .i64 k)] (Frm.start rfl (by intro p hp; simp only [List.mem_cons, List.not_mem_nil, or_false] at hp; rcases hp with rfl | rfl | rfl | rfl <;> rfl)) (fun a0 hM => ?_)
  have HB2 : Hid (Below w.heap.size w w) := Below.refl _ _
  refine region_then fun K3 QK3 hK3 => ?_
  refine s_val hM (.inl rfl) rfl rfl (ev_move (.inr rfl) rfl) (fun a5 hM4 => ?_)
  clear hM
  refine s_val hM4 (.inl rfl) rfl rfl (ev_move (.inr rfl) rfl) (fun a7 hM6 => ?_)
  clear hM4
  refine seg_nil (hK3 _ _ ?_)
  clear hK3 K3 QK3
  have hM8 := hM6.cut6 (t1 := 0) (t2 := 1) (t3 := 2) (t4 := 3) (t5 := 8) (t6 := 9) rfl rfl rfl rfl rfl rfl
  clear hM6
  refine region_then fun K9 QK9 hK9 => ?_
  refine s_val hM8 (.inl rfl) rfl rfl (ev_move (.inl rfl) rfl) (fun a11 hM10 => ?_)
  clear hM8
  refine s_val hM10 (.inl rfl) rfl rfl (ev_move (.inl rfl) rfl) (fun a13 hM12 => ?_)
  clear hM10
  refine s_val hM12 (.inl rfl) rfl rfl (ev_build2 (v := .agg #[.int .i64 a, .int .i64 b]) rfl rfl rfl (fun w => by kernel_rfl)) (fun a15 hM14 => ?_)
  clear hM12
  refine s_new hM14 rfl rfl rfl rfl alloc_way rfl rfl rfl rfl info_way rfl one_way (fun g16 a22 w17 hM21 KB20_ hb18 hg19 => ?_)
  have KB20 := hide KB20_
  clear hM14 KB20_
  clear hg19
  have HB23 := hide (below_then HB2.out hb18)
  clear hb18 HB2
  have HB25 : Hid (Below w17.heap.size w17 w17) := Below.refl _ _
  refine seg_nil (hK9 _ _ ?_)
  clear hK9 K9 QK9
  have hM26 := hM21.cut7 (t1 := 0) (t2 := 1) (t3 := 2) (t4 := 3) (t5 := 8) (t6 := 9) (t7 := 10) rfl rfl rfl rfl rfl rfl rfl
  clear hM21
  refine region_then fun K27 QK27 hK27 => ?_
  refine s_val hM26 (.inl rfl) rfl rfl (ev_move (.inl rfl) rfl) (fun a29 hM28 => ?_)
  clear hM26
  refine s_val hM28 (.inl rfl) rfl rfl (ev_loadm rfl rfl (KB20.out.on HB25.out).rng Try.underlying115 rfl info_way) (fun a31 hM30 => ?_)
  clear hM28
  refine s_val hM30 (.inl rfl) rfl rfl (ev_move (.inl rfl) rfl) (fun a33 hM32 => ?_)
  clear hM30
  refine s_call hM32 (.inl rfl) rfl rfl (f := 74) (args := #[.pointer (some ⟨g, 0, none⟩), .agg (#[.int .i64 a, .int .i64 b]), .int .i64 k]) (ev_call hM32 rfl rfl rfl (fun w => by simp [go_sem]) _) (net_at_no a b k (HNJ.out.below HB23.out) hk) (fun e w34 hp => ?_)
  obtain ⟨rfl, hb35⟩ := hp
  refine ⟨_, rfl, fun a37 hM36 => ?_⟩
  clear hM32
  have HB38 := hide (below_then HB23.out hb35)
  have HB39 := hide (below_then HB25.out hb35)
  clear hb35 HB23 HB25
  refine s_val hM36 (.inl rfl) rfl rfl (ev_move (.inl rfl) rfl) (fun a41 hM40 => ?_)
  clear hM36
  refine s_val hM40 (.inl rfl) rfl rfl (ev_ext (v := .slice none 0 0) rfl rfl rfl) (fun a43 hM42 => ?_)
  clear hM40
  refine s_val hM42 (.inl rfl) rfl rfl (ev_ext (v := .bool false) rfl rfl rfl) (fun a45 hM44 => ?_)
  clear hM42
  refine s_val hM44 (.inl rfl) rfl rfl (ev_move (.inr rfl) rfl) (fun a47 hM46 => ?_)
  clear hM44
  refine s_val hM46 (.inl rfl) rfl rfl (ev_move (.inr rfl) rfl) (fun a49 hM48 => ?_)
  clear hM46
  refine seg_nil (hK27 _ _ ?_)
  clear hK27 K27 QK27
  have hM50 := hM48.cut9 (t1 := 0) (t2 := 1) (t3 := 2) (t4 := 3) (t5 := 8) (t6 := 9) (t7 := 10) (t8 := 11) (t9 := 12) rfl rfl rfl rfl rfl rfl rfl rfl rfl
  clear hM48
  refine wp_seq_k fun K51 hK51 => ?_
  refine region_then fun K52 QK52 hK52 => ?_
  refine s_val hM50 (.inl rfl) rfl rfl (ev_move (.inl rfl) rfl) (fun a54 hM53 => ?_)
  clear hM50
  refine s_val hM53 (.inl rfl) rfl rfl (ev_not rfl rfl rfl) (fun a56 hM55 => ?_)
  clear hM53
  refine seg_nil (hK52 _ _ ?_)
  clear hK52 K52 QK52
  have hM57 := hM55.cut7 (t1 := 0) (t2 := 1) (t3 := 2) (t4 := 3) (t5 := 10) (t6 := 11) (t7 := 24) rfl rfl rfl rfl rfl rfl rfl
  clear hM55
  refine wp_cond_true (hM57.ev (t := 24) rfl) ?_
  refine region_then fun K58 QK58 hK58 => ?_
  refine s_val hM57 (.inl rfl) rfl rfl (ev_move (.inr rfl) rfl) (fun a60 hM59 => ?_)
  clear hM57
  refine s_val hM59 (.inl rfl) rfl rfl (ev_move (.inr rfl) rfl) (fun a62 hM61 => ?_)
  clear hM59
  refine seg_nil (hK58 _ _ ?_)
  clear hK58 K58 QK58
  have hM63 := hM61.cut2 (t1 := 8) (t2 := 9) rfl rfl
  clear hM61
  refine wp_ret ?_
  repeat (with_reducible first | refine th_r ?_ | refine inb_r ?_ | refine js_r ?_)
  refine ret2_of (t := 8) (s := 9) rfl hM63 rfl rfl ?_
  exact ⟨rfl, HB38.out⟩

set_option maxRecDepth 100000 in
set_option maxHeartbeats 4000000 in
theorem net_Take_ok {F : Nat → Prop} {w : World} {g mb : Nat} {rows : Int × Int → Option Value} {st : Int × Int → List (Value × List UInt8)} (a b : Int) (h : NtJ F w g mb rows st) {i : Nat} {p : Value × List UInt8} (hi : (st (a, b))[i]? = some p) :
    Calls Try.prog 46 #[.pointer (some ⟨g, 0, none⟩), .int .i64 a, .int .i64 b, .int .i64 (i : Int)] w fun e w' => e = .returned (.tuple #[p.1, .int .i64 0]) ∧ ∃ V', NtJ (fun q => F q ∧ p.1.ownBlock ≠ some q) w' g mb (updF rows (a, b) (some V')) (updF st (a, b) ((st (a, b)).eraseIdx i)) ∧ w'.ownsRow 0 5 1 p.1 p.2.length (bytes8 p.2) ∧ Chg (RowG mb ((rows (a, b)).getD nilV)) w w' := by
  have HKG := hide h.k
  have HNJ := hide h
  obtain ⟨A0, c0, hv, hc0, hm0, _⟩ := h.row (a, b)
  obtain ⟨gr, rfl, hgl, _, _⟩ := h.cell hv hi
  have HV := hide hv
  have HI := hide hi
  have hlt := lt_of_at hi
  have hcnt := h.cnt (a, b)
  clear hv
  clear h
  go_enter Try.func46, Try.ntmps46
  refine act_off 41 [(0, .pointer (some ⟨g, 0, none⟩)), (1, .int .i64 a), (2, .int .i64 b), (3, .int .i64 ((i : Int)))] (Frm.start rfl (by intro p hp; simp only [List.mem_cons, List.not_mem_nil, or_false] at hp; rcases hp with rfl | rfl | rfl | rfl <;> rfl)) (fun a0 hM => ?_)
  have HB2 : Hid (Below w.heap.size w w) := Below.refl _ _
  refine region_then fun K3 QK3 hK3 => ?_
  refine s_val hM (.inl rfl) rfl rfl (ev_move (.inr rfl) rfl) (fun a5 hM4 => ?_)
  clear hM
  refine s_val hM4 (.inl rfl) rfl rfl (ev_move (.inr rfl) rfl) (fun a7 hM6 => ?_)
  clear hM4
  refine seg_nil (hK3 _ _ ?_)
  clear hK3 K3 QK3
  have hM8 := hM6.cut6 (t1 := 0) (t2 := 1) (t3 := 2) (t4 := 3) (t5 := 8) (t6 := 9) rfl rfl rfl rfl rfl rfl
  clear hM6
  refine region_then fun K9 QK9 hK9 => ?_
  refine s_val hM8 (.inl rfl) rfl rfl (ev_move (.inl rfl) rfl) (fun a11 hM10 => ?_)
  clear hM8
  refine s_val hM10 (.inl rfl) rfl rfl (ev_move (.inl rfl) rfl) (fun a13 hM12 => ?_)
  clear hM10
  refine s_val hM12 (.inl rfl) rfl rfl (ev_build2 (v := .agg #[.int .i64 a, .int .i64 b]) rfl rfl rfl (fun w => by kernel_rfl)) (fun a15 hM14 => ?_)
  clear hM12
  refine s_new hM14 rfl rfl rfl rfl alloc_way rfl rfl rfl rfl info_way rfl one_way (fun g16 a22 w17 hM21 KB20_ hb18 hg19 => ?_)
  have KB20 := hide KB20_
  clear hM14 KB20_
  clear hg19
  have HB23 := hide (below_then HB2.out hb18)
  clear hb18 HB2
  have HB25 : Hid (Below w17.heap.size w17 w17) := Below.refl _ _
  refine seg_nil (hK9 _ _ ?_)
  clear hK9 K9 QK9
  have hM26 := hM21.cut7 (t1 := 0) (t2 := 1) (t3 := 2) (t4 := 3) (t5 := 8) (t6 := 9) (t7 := 10) rfl rfl rfl rfl rfl rfl rfl
  clear hM21
  refine region_then fun K27 QK27 hK27 => ?_
  refine s_val hM26 (.inl rfl) rfl rfl (ev_move (.inl rfl) rfl) (fun a29 hM28 => ?_)
  clear hM26
  refine s_val hM28 (.inl rfl) rfl rfl (ev_loadm rfl rfl (KB20.out.on HB25.out).rng Try.underlying115 rfl info_way) (fun a31 hM30 => ?_)
  clear hM28
  refine s_val hM30 (.inl rfl) rfl rfl (ev_move (.inl rfl) rfl) (fun a33 hM32 => ?_)
  clear hM30
  refine s_call hM32 (.inl rfl) rfl rfl (f := 74) (args := #[.pointer (some ⟨g, 0, none⟩), .agg (#[.int .i64 a, .int .i64 b]), .int .i64 ((i : Int))]) (ev_call hM32 rfl rfl rfl (fun w => by simp [go_sem]) _) (net_at_yes a b (HNJ.out.below HB23.out) HI.out) (fun e w34 hp => ?_)
  obtain ⟨rfl, hb35⟩ := hp
  refine ⟨_, rfl, fun a37 hM36 => ?_⟩
  clear hM32
  have HB38 := hide (below_then HB23.out hb35)
  have HB39 := hide (below_then HB25.out hb35)
  clear hb35 HB23 HB25
  refine s_val hM36 (.inl rfl) rfl rfl (ev_move (.inl rfl) rfl) (fun a41 hM40 => ?_)
  clear hM36
  refine s_val hM40 (.inl rfl) rfl rfl (ev_ext (v := p.1) rfl rfl rfl) (fun a43 hM42 => ?_)
  clear hM40
  refine s_val hM42 (.inl rfl) rfl rfl (ev_ext (v := .bool true) rfl rfl rfl) (fun a45 hM44 => ?_)
  clear hM42
  refine s_val hM44 (.inl rfl) rfl rfl (ev_move (.inr rfl) rfl) (fun a47 hM46 => ?_)
  clear hM44
  refine s_val hM46 (.inl rfl) rfl rfl (ev_move (.inr rfl) rfl) (fun a49 hM48 => ?_)
  clear hM46
  refine seg_nil (hK27 _ _ ?_)
  clear hK27 K27 QK27
  have hM50 := hM48.cut9 (t1 := 0) (t2 := 1) (t3 := 2) (t4 := 3) (t5 := 8) (t6 := 9) (t7 := 10) (t8 := 11) (t9 := 12) rfl rfl rfl rfl rfl rfl rfl rfl rfl
  clear hM48
  refine wp_seq_k fun K51 hK51 => ?_
  refine region_then fun K52 QK52 hK52 => ?_
  refine s_val hM50 (.inl rfl) rfl rfl (ev_move (.inl rfl) rfl) (fun a54 hM53 => ?_)
  clear hM50
  refine s_val hM53 (.inl rfl) rfl rfl (ev_not rfl rfl rfl) (fun a56 hM55 => ?_)
  clear hM53
  refine seg_nil (hK52 _ _ ?_)
  clear hK52 K52 QK52
  have hM57 := hM55.cut7 (t1 := 0) (t2 := 1) (t3 := 2) (t4 := 3) (t5 := 10) (t6 := 11) (t7 := 24) rfl rfl rfl rfl rfl rfl rfl
  clear hM55
  refine wp_cond_false (hM57.ev (t := 24) rfl) ?_
  refine wp_skip ?_
  refine hK51 _ _ ?_
  have hb5 := hide HB38.out
  have hg5 := (HKG.out.on HB38.out)
  have hw5 := (KB20.out.on HB39.out)
  have hJ5 := HNJ.out.below hb5.out
  refine z_open 16 15 rfl (by kernel_rfl) (fun w' => Blk w' g 113 #[.map (some mb)] ∧ Blk w' g16 115 #[.int .i64 a, .int .i64 b] ∧ Mq w' mb pairV rows) fun K60 w58 hb59 hK60 => ?_
  have hS : Blk w58 g 113 #[.map (some mb)] ∧ Blk w58 g16 115 #[.int .i64 a, .int .i64 b] ∧ Mq w58 mb pairV rows := ⟨hg5.on hb59, hw5.on hb59, hJ5.mp.later hb59⟩
  have hJ6 := hJ5.below hb59
  have hbT := below_then hb5.out hb59
  refine z_val 0 rfl rfl (by kernel_rfl) (by kernel_rfl) (by kernel_rfl) (by kernel_rfl) (by kernel_rfl) hM57 (.inl rfl) rfl rfl hS (fun w' hr => (ev_move (.inl rfl) rfl)) (fun a62 hM61 => ?_)
  clear hM57
  refine z_val 1 rfl rfl (by kernel_rfl) (by kernel_rfl) (by kernel_rfl) (by kernel_rfl) (by kernel_rfl) hM61 (.inl rfl) rfl rfl hS (fun w' hr => (ev_nilc rfl rfl)) (fun a64 hM63 => ?_)
  clear hM61
  refine z_val 2 rfl rfl (by kernel_rfl) (by kernel_rfl) (by kernel_rfl) (by kernel_rfl) (by kernel_rfl) hM63 (.inl rfl) rfl rfl hS (fun w' hr => (ev_fldw (m := 0) rfl rfl (fun w => by simp [go_sem]))) (fun a66 hM65 => ?_)
  clear hM63
  refine z_val 3 rfl rfl (by kernel_rfl) (by kernel_rfl) (by kernel_rfl) (by kernel_rfl) (by kernel_rfl) hM65 (.inl rfl) rfl rfl hS (fun w' hr => (ev_load1 (v := .map (some mb)) rfl rfl (hr.1.rng.at_ (m := 0) rfl) (isAgg_no Try.underlying111 rfl))) (fun a68 hM67 => ?_)
  clear hM65
  refine z_val 4 rfl rfl (by kernel_rfl) (by kernel_rfl) (by kernel_rfl) (by kernel_rfl) (by kernel_rfl) hM67 (.inl rfl) rfl rfl hS (fun w' hr => (ev_loadm (C := #[.int .i64 a, .int .i64 b]) rfl rfl hr.2.1.rng Try.underlying115 rfl info_way)) (fun a70 hM69 => ?_)
  clear hM67
  refine z_val 5 rfl rfl (by kernel_rfl) (by kernel_rfl) (by kernel_rfl) (by kernel_rfl) (by kernel_rfl) hM69 (.inl rfl) rfl rfl hS (fun w' hr => (ev_move (.inl rfl) rfl)) (fun a72 hM71 => ?_)
  clear hM69
  refine z_val 6 rfl rfl (by kernel_rfl) (by kernel_rfl) (by kernel_rfl) (by kernel_rfl) (by kernel_rfl) hM71 (.inl rfl) rfl rfl hS (fun w' hr => (ev_nilc rfl rfl)) (fun a74 hM73 => ?_)
  clear hM71
  refine z_val 7 rfl rfl (by kernel_rfl) (by kernel_rfl) (by kernel_rfl) (by kernel_rfl) (by kernel_rfl) hM73 (.inl rfl) rfl rfl hS (fun w' hr => (ev_fldw (m := 0) rfl rfl (fun w => by simp [go_sem]))) (fun a76 hM75 => ?_)
  clear hM73
  refine z_val 8 rfl rfl (by kernel_rfl) (by kernel_rfl) (by kernel_rfl) (by kernel_rfl) (by kernel_rfl) hM75 (.inl rfl) rfl rfl hS (fun w' hr => (ev_load1 (v := .map (some mb)) rfl rfl (hr.1.rng.at_ (m := 0) rfl) (isAgg_no Try.underlying111 rfl))) (fun a78 hM77 => ?_)
  clear hM75
  refine z_val 9 rfl rfl (by kernel_rfl) (by kernel_rfl) (by kernel_rfl) (by kernel_rfl) (by kernel_rfl) hM77 (.inl rfl) rfl rfl hS (fun w' hr => (ev_loadm (C := #[.int .i64 a, .int .i64 b]) rfl rfl hr.2.1.rng Try.underlying115 rfl info_way)) (fun a80 hM79 => ?_)
  clear hM77
  refine z_val 10 rfl rfl (by kernel_rfl) (by kernel_rfl) (by kernel_rfl) (by kernel_rfl) (by kernel_rfl) hM79 (.inl rfl) rfl rfl hS (fun w' hr => (ev_look (m := mb) (k := (a, b)) rfl rfl rfl (look_row hr.2.2 HV.out))) (fun a82 hM81 => ?_)
  clear hM79
  refine z_val 11 rfl rfl (by kernel_rfl) (by kernel_rfl) (by kernel_rfl) (by kernel_rfl) (by kernel_rfl) hM81 (.inl rfl) rfl rfl hS (fun w' hr => (ev_move (.inl rfl) rfl)) (fun a84 hM83 => ?_)
  clear hM81
  refine z_val 12 rfl rfl (by kernel_rfl) (by kernel_rfl) (by kernel_rfl) (by kernel_rfl) (by kernel_rfl) hM83 (.inl rfl) rfl rfl hS (fun w' hr => (ev_move (.inl rfl) rfl)) (fun a86 hM85 => ?_)
  clear hM83
  refine z_val 13 rfl rfl (by kernel_rfl) (by kernel_rfl) (by kernel_rfl) (by kernel_rfl) (by kernel_rfl) hM85 (.inl rfl) rfl rfl hS (fun w' hr => (ev_bin rfl rfl rfl g_int (b_add (r := ((i + 1 : Nat) : Int)) (by omega) (by omega)))) (fun a88 hM87 => ?_)
  clear hM85
  have oR := hJ6.own (a, b)
  rw [HV.out] at oR
  refine z_only 14 (by kernel_rfl) (n_call (d := 39) (f := 75) (args := #[.slice (some ⟨gr, 0, none⟩) (st (a, b)).length c0, .int .i64 (i : Int), .int .i64 ((i + 1 : Nat) : Int)]) rfl hM87 (.inl rfl) rfl (ev_call hM87 rfl rfl rfl (fun w => by simp [go_sem]) _) (slices_Delete_rows _ oR hlt (vals_one hJ6 (a, b))) (fun e w2 hp => ?_))
  obtain ⟨rfl, o2, c2⟩ := hp
  have nR := own_not_map oR hJ6.mp
  have m2 := hJ6.mp.at_ (c2.at_ hJ6.mp.lt (fun e => nR (by rw [e]; rfl)))
  have hS2 : Blk w2 g 113 #[.map (some mb)] ∧ Blk w2 g16 115 #[.int .i64 a, .int .i64 b] ∧ Mq w2 mb pairV rows := ⟨hS.1.chg c2 (fun e => own_blk_ne oR hS.1 (by decide) (by rw [e]; rfl)), hS.2.1.chg c2 (fun e => own_blk_ne oR hS.2.1 (by decide) (by rw [e]; rfl)), m2⟩
  refine ⟨_, rfl, .inr hS2, ?_⟩
  have hM89 := hM87.put (d := 39) (by decide) (.slice (some ⟨gr, 0, none⟩) ((st (a, b)).length - 1) c0)
  obtain ⟨w3, hr3, hm3, hg3⟩ := m2.update keys_way under_ways zero_rows (a, b) (.slice (some ⟨gr, 0, none⟩) ((st (a, b)).length - 1) c0)
  refine z_end rfl (by kernel_rfl) rfl rfl (run_mapUpdate hM89 rfl rfl rfl rfl hr3) (by kernel_rfl) ?_
  have HR := hide (take_end HNJ.out hbT HV.out HI.out o2 c2 hg3 hm3)
  refine hK60 _ _ ?_
  have hMz := hM89.cut1 (t1 := 11) rfl
  clear hM89 hM87 hS hS2 hJ5 hJ6 hbT hb5 hg5 hw5 oR o2 c2 nR m2 hr3 hm3 hg3
  have HB91 : Hid (Below w3.heap.size w3 w3) := Below.refl _ _
  refine region_then fun K92 QK92 hK92 => ?_
  refine s_val hMz (.inl rfl) rfl rfl (ev_move (.inl rfl) rfl) (fun a94 hM93 => ?_)
  clear hMz
  refine s_val hM93 (.inl rfl) rfl rfl (ev_move (.inr rfl) rfl) (fun a96 hM95 => ?_)
  clear hM93
  refine s_val hM95 (.inl rfl) rfl rfl (ev_move (.inr rfl) rfl) (fun a98 hM97 => ?_)
  clear hM95
  refine seg_nil (hK92 _ _ ?_)
  clear hK92 K92 QK92
  have hM99 := hM97.cut2 (t1 := 8) (t2 := 9) rfl rfl
  clear hM97
  refine wp_ret ?_
  repeat (with_reducible first | refine th_r ?_ | refine inb_r ?_ | refine js_r ?_)
  refine ret2_of (t := 8) (s := 9) rfl hM99 rfl rfl ?_
  exact ⟨rfl, HR.out⟩
end Go.Proofs.Ytflamhndmggiaaa
/-
  Contracts of package net: New, Double, Drop, over nets that read as lists of bytes.
-/
namespace Go.Proofs.Ytflamhndmggiaaa
open Go.RowKit

set_option maxHeartbeats 1000000 in
theorem net_Drop_no {F : Nat → Prop} {w : World} {g mb : Nat} {rows : Int × Int → Option Value} {st : Int × Int → List (Value × List UInt8)} (a b : Int) (h : NtJ F w g mb rows st) (k : Int) (hk : k < 0 ∨ ((st (a, b)).length : Int) ≤ k) :
    Calls Try.prog 53 #[.pointer (some ⟨g, 0, none⟩), .int .i64 a, .int .i64 b, .int .i64 k] w fun e w' => e = .returned (.int .i64 3) ∧ Below w.heap.size w w' := by
  have HC := hide (net_Take_no a b h k hk)
  clear h hk
  go_enter Try.func53, Try.ntmps53
  go_wp2_with fail
  refine HC.out.mono ?_
  rintro e w' ⟨rfl, hb⟩
  go_wp2_with fail
  go_ret
  exact ⟨rfl, hb⟩
set_option maxHeartbeats 1000000 in
theorem net_Drop_ok {F : Nat → Prop} {w : World} {g mb : Nat} {rows : Int × Int → Option Value} {st : Int × Int → List (Value × List UInt8)} (a b : Int) (h : NtJ F w g mb rows st) {i : Nat} {p : Value × List UInt8} (hi : (st (a, b))[i]? = some p) :
    Calls Try.prog 53 #[.pointer (some ⟨g, 0, none⟩), .int .i64 a, .int .i64 b, .int .i64 (i : Int)] w fun e w' => e = .returned (.int .i64 0) ∧ ∃ V', NtJ (fun q => F q ∧ p.1.ownBlock ≠ some q) w' g mb (updF rows (a, b) (some V')) (updF st (a, b) ((st (a, b)).eraseIdx i)) ∧ w'.ownsRow 0 5 1 p.1 p.2.length (bytes8 p.2) ∧ Chg (RowG mb ((rows (a, b)).getD nilV)) w w' := by
  have HC := hide (net_Take_ok a b h hi)
  clear h hi
  obtain ⟨V0, HV⟩ : ∃ v, Hid (p.1 = v) := ⟨_, rfl⟩
  go_enter Try.func53, Try.ntmps53
  go_wp2_with fail
  refine HC.out.mono ?_
  rintro e w' ⟨rfl, hb⟩
  have HR := hide hb
  clear hb
  go_wp2_with fail
  go_ret
  exact ⟨rfl, HR.out⟩
set_option maxHeartbeats 1000000 in
theorem net_Double_no {F : Nat → Prop} {w : World} {g mb : Nat} {rows : Int × Int → Option Value} {st : Int × Int → List (Value × List UInt8)} (a b : Int) (h : NtJ F w g mb rows st) (k : Int) (hk : k < 0 ∨ ((st (a, b)).length : Int) ≤ k) :
    Calls Try.prog 44 #[.pointer (some ⟨g, 0, none⟩), .int .i64 a, .int .i64 b, .int .i64 k] w fun e w' => e = .returned (.int .i64 3) ∧ Below w.heap.size w w' := by
  have HC := hide (net_at_no a b k h hk)
  unfold pairV at HC
  clear h hk
  go_enter Try.func44, Try.ntmps44
  go_wp2_with fail
  refine HC.out.mono ?_
  rintro e w' ⟨rfl, hb⟩
  go_wp2_with fail
  go_ret
  exact ⟨rfl, hb⟩
set_option maxHeartbeats 1000000 in
theorem net_Double_full {F : Nat → Prop} {w : World} {g mb : Nat} {rows : Int × Int → Option Value} {st : Int × Int → List (Value × List UInt8)} (a b : Int) (h : NtJ F w g mb rows st) {i : Nat} {p : Value × List UInt8} (hi : (st (a, b))[i]? = some p) (hN : (nodeB a && nodeB b) = true) (hL : (st (a, b)).length = 1024) :
    Calls Try.prog 44 #[.pointer (some ⟨g, 0, none⟩), .int .i64 a, .int .i64 b, .int .i64 (i : Int)] w fun e w' => e = .returned (.int .i64 8) ∧ Below w.heap.size w w' := by
  have HC := hide (net_at_yes a b h hi)
  unfold pairV at HC
  obtain ⟨A1, c1, hp⟩ := own_slice (h.el (a, b) p (mem_of_at hi))
  rw [hp] at HC
  have HJ := hide h
  clear h hi
  go_enter Try.func44, Try.ntmps44
  go_wp2_with fail
  refine HC.out.mono ?_
  rintro e w1 ⟨rfl, hb⟩
  go_wp2_with fail
  refine (net_Put_full (x := []) a b (HJ.out.below hb) hN hL).mono ?_
  rintro e w' ⟨rfl, hb'⟩
  go_wp2_with fail
  go_ret
  exact ⟨rfl, below_then hb hb'⟩
set_option maxHeartbeats 1000000 in
theorem net_Double_ok {F : Nat → Prop} {w : World} {g mb : Nat} {rows : Int × Int → Option Value} {st : Int × Int → List (Value × List UInt8)} (a b : Int) (h : NtJ F w g mb rows st) {i : Nat} {p : Value × List UInt8} (hi : (st (a, b))[i]? = some p) (hN : (nodeB a && nodeB b) = true) (hL : (st (a, b)).length < 1024) :
    Calls Try.prog 44 #[.pointer (some ⟨g, 0, none⟩), .int .i64 a, .int .i64 b, .int .i64 (i : Int)] w fun e w' => e = .returned (.int .i64 0) ∧ ∃ F' V' u, NtJ F' w' g mb (updF rows (a, b) (some V')) (updF st (a, b) (st (a, b) ++ [(u, p.2)])) ∧ (∀ q, F' q → F q ∨ w.heap.size ≤ q) ∧ Chg (RowG mb ((rows (a, b)).getD nilV)) w w' := by
  have HC := hide (net_at_yes a b h hi)
  unfold pairV at HC
  have hsm := h.sm (a, b) p (mem_of_at hi)
  have hel := h.el (a, b) p (mem_of_at hi)
  obtain ⟨A1, c1, hp⟩ := own_slice hel
  rw [hp] at HC hel
  have HE := hide (Sl.of_own hel)
  have HJ := hide h
  clear h hi hel
  go_enter Try.func44, Try.ntmps44
  go_wp2_with fail
  refine HC.out.mono ?_
  rintro e w1 ⟨rfl, hb⟩
  go_wp2_with fail
  refine (net_Put_ok a b (HJ.out.below hb) hN hL (HE.out.below hb) hsm).mono ?_
  rintro e w' ⟨rfl, V', u, hJ', hc'⟩
  have HR := hide hJ'
  have HCH := hide ((Chg.of_below (F := RowG mb ((rows (a, b)).getD nilV)) hb).trans hc' (fun _ h => .inl h))
  clear hJ' hc'
  go_wp2_with fail
  go_ret
  exact ⟨rfl, _, V', u, HR.out, fun q hq => hq.imp id (fun h => Nat.le_trans hb.size h.1), HCH.out⟩
theorem new_end (w : World) : NtJ (fun b => b = w.heap.size + 1 ∨ b = w.heap.size) ((w.alloc (.map #[] 0)).alloc (.cells #[.map (some w.heap.size)] 113)) (w.heap.size + 1) w.heap.size (fun _ => none) (fun _ => []) ∧ Below w.heap.size w ((w.alloc (.map #[] 0)).alloc (.cells #[.map (some w.heap.size)] 113)) := by
  have hb0 : Below w.heap.size w (w.alloc (.map #[] 0)) := (Below.refl _ w).alloc (Nat.le_refl _) _
  refine ⟨⟨Blk.new2 w _ _ _, (Mq.made w pairV).later ((Below.refl _ _).alloc (Nat.le_refl _) _), fun q => World.ownsRow_nil _ _ _ _, (fun q p hp => absurd hp (by simp)), (fun q q' b hb => (by cases hb)), (fun q q' i i' p p' b hp => (by cases hp)), .inl rfl, .inr rfl, (fun q b hb => (by cases hb)), (fun q p b hp => absurd hp (by simp)), fun b hb => ?_, fun q => Nat.zero_le _, (fun q p hp => absurd hp (by simp))⟩, hb0.alloc hb0.size _⟩
  simp
  omega
set_option maxHeartbeats 1000000 in
theorem net_New (w : World) :
    Calls Try.prog 41 #[] w fun e w' => ∃ g m, e = .returned (.pointer (some ⟨g, 0, none⟩)) ∧ NtJ (fun b => b = g ∨ b = m) w' g m (fun _ => none) (fun _ => []) ∧ Below w.heap.size w w' ∧ w.heap.size ≤ g ∧ w.heap.size ≤ m := by
  obtain ⟨h1, h2⟩ := new_end w
  have H1 := hide h1
  have H2 := hide h2
  clear h1 h2
  have hmm := @run_makeMap Try.prog
  go_enter Try.func41, Try.ntmps41
  go_wp2_with fail
  go_ret
  exact ⟨_, _, rfl, H1.out, H2.out, by omega, Nat.le_refl _⟩
end Go.Proofs.Ytflamhndmggiaaa
/-
  Contracts of package net: Clear, New.
-/
namespace Go.Proofs.Ytflamhndmggiaaa
open Go.RowKit

section
variable {P : Program} {a : Act} {n : Nat} {M : List (Nat × Value)} {ops : Array Oper} {o : Oper} {w w' : World} {Q : Exit → Act → World → Prop} {K : Act → World → Prop} {rest : List Oper}
theorem norm_of {fn : Func} {R : Ending → World → Prop} (hres : fn.results = #[]) (hM : Frm a n M) (hR : R (.returned (.tuple #[])) w) : bodyPost P fn R .normal a w := ⟨hM.2.1, _, results_none hres _ _ _, hR⟩
theorem s_delete {s x : Operand} {t t2 : TypeId} {vx vy : Value} (hM : Frm a n M) (hg : o.guard = none) (hd : o.dst = none) (ho : o.op = .call { callee := .builtin .delete, args := #[s, x], argTypes := #[t, t2] }) (hs : opv M s = some vx) (hx : opv M x = some vy)
    (hr : (Builtin.delete_ #[t, t2] o.type #[vx, vy]).run P w = .ok (.tuple #[]) w') (h : wpSeg P ops Q K rest a w') : wpSeg P ops Q K (o :: rest) a w := by
  have hrun : (execOp a.eval o).run P w = .ok (.value (.tuple #[])) w' := by
    unfold execOp
    simp only [ho, resolve, invoke, builtin, Sem.run_bind, Sem.run_pure, Result.andThen_ok, List.map_toArray, List.map_cons, List.map_nil, hM.evo hs, hM.evo hx, hr]
  unfold wpSeg
  rw [if_pos (by simp [Region.wanted, hg])]
  refine .inl ?_
  unfold Oper.wp
  rw [hrun, Oper.upon_value, hd]
  exact h
end
def clr (b : Int) (j : Nat) (st : Int × Int → List (Value × List UInt8)) : (Int × Int → List (Value × List UInt8)) := fun q => if q.2 = b ∧ 1 ≤ q.1 ∧ q.1 < (j : Int) then [] else st q
theorem clr_step {b : Int} {j : Nat} {st st' : Int × Int → List (Value × List UInt8)} (hj : 1 ≤ j) (h : ∀ q, st' q = clr b j st q) (q : Int × Int) : updF st' ((j : Int), b) [] q = clr b (j + 1) st q := by
  unfold updF clr
  have h2 := h q
  unfold clr at h2
  obtain ⟨q1, q2⟩ := q
  by_cases e : (q1, q2) = ((j : Int), b)
  · rw [if_pos e]
    injection e with e1 e2
    subst e1; subst e2
    rw [if_pos (by simp only; exact ⟨trivial, by omega, by omega⟩)]
  · rw [if_neg e, h2]
    simp only
    by_cases e2 : q2 = b
    · have e1 : q1 ≠ (j : Int) := fun e1 => e (by rw [e1, e2])
      by_cases h3 : 1 ≤ q1 ∧ q1 < (j : Int)
      · rw [if_pos ⟨e2, h3⟩, if_pos ⟨e2, h3.1, by omega⟩]
      · rw [if_neg (fun h => h3 h.2), if_neg (fun h => h3 ⟨h.2.1, by omega⟩)]
    · rw [if_neg (fun h => e2 h.1), if_neg (fun h => e2 h.1)]
set_option maxRecDepth 100000 in
set_option maxHeartbeats 4000000 in
theorem net_Clear {F : Nat → Prop} {w : World} {g mb : Nat} {rows : Int × Int → Option Value} {st : Int × Int → List (Value × List UInt8)} (b : Int) (h : NtJ F w g mb rows st) :
    Calls Try.prog 50 #[.pointer (some ⟨g, 0, none⟩), .int .i64 b] w fun e w' => e = .returned (.tuple #[]) ∧ ∃ rows' st', NtJ F w' g mb rows' st' ∧ (∀ q, st' q = clr b 17 st q) ∧ Chg (fun x => x = mb) w w' := by
  have HNJ := hide h
  clear h
  go_enter Try.func50, Try.ntmps50
  refine act_off 16 [(0, .pointer (some ⟨g, 0, none⟩)), (1, .int .i64 b)] (Frm.start rfl (by intro p hp; simp only [List.mem_cons, List.not_mem_nil, or_false] at hp; rcases hp with rfl | rfl <;> rfl)) (fun a0 hM => ?_)
  have HB2 : Hid (Below w.heap.size w w) := Below.refl _ _
  refine scope_loop 0 (fun a w' => ∃ (j : Nat) (rows' : Int × Int → Option Value) (st' : Int × Int → List (Value × List UInt8)), Frm a 16 [(0, .pointer (some ⟨g, 0, none⟩)), (1, .int .i64 b), (4, .int .i64 (j : Int))] ∧ Hid (1 ≤ j ∧ j ≤ 17) ∧ Hid (NtJ F w' g mb rows' st') ∧ Hid (∀ q, st' q = clr b j st q) ∧ Hid (Chg (fun x => x = mb) w w')) (fun a _ => 17 - (intOf (a.tmps.getD 4 undef)).toNat) rfl (fun a w1 hJ => ?_) (fun hgo => ?_)
  ·
    obtain ⟨j, rows', st', hMM, HJ, HN, HST, HCH⟩ := hJ
    have hj := HJ.out
    have hM0 := hMM
    have HKG2 := hide HN.out.k
    have HB4 : Hid (Below w1.heap.size w1 w1) := Below.refl _ _
    by_cases hlt : j ≤ 16
    case pos =>
      refine region_then fun K5 QK5 hK5 => ?_
      refine s_val hM0 (.inl rfl) rfl rfl (ev_move (.inl rfl) rfl) (fun a7 hM6 => ?_)
      clear hM0
      refine s_val hM6 (.inl rfl) rfl rfl (ev_bin rfl rfl rfl g_int (b_leq (b := true) (by rw [decide_eq_true_eq]; omega))) (fun a9 hM8 => ?_)
      clear hM6
      refine seg_nil (hK5 _ _ ?_)
      clear hK5 K5 QK5
      have hM10 := hM8.cut4 (t1 := 0) (t2 := 1) (t3 := 4) (t4 := 6) rfl rfl rfl rfl
      clear hM8
      refine wp_cond_true (hM10.ev (t := 6) rfl) ?_
      refine region_then fun K11 QK11 hK11 => ?_
      refine s_val hM10 (.inl rfl) rfl rfl (ev_move (.inl rfl) rfl) (fun a13 hM12 => ?_)
      clear hM10
      refine s_val hM12 (.inl rfl) rfl rfl (ev_nilc rfl rfl) (fun a15 hM14 => ?_)
      clear hM12
      refine s_val hM14 (.inl rfl) rfl rfl (ev_fldw (m := 0) rfl rfl (fun w => by simp [go_sem])) (fun a17 hM16 => ?_)
      clear hM14
      refine s_val hM16 (.inl rfl) rfl rfl (ev_load1 (v := .map (some mb)) rfl rfl ((HKG2.out.on HB4.out).rng.at_ (m := 0) rfl) (isAgg_no Try.underlying111 rfl)) (fun a19 hM18 => ?_)
      clear hM16
      refine s_val hM18 (.inl rfl) rfl rfl (ev_move (.inl rfl) rfl) (fun a21 hM20 => ?_)
      clear hM18
      refine s_val hM20 (.inl rfl) rfl rfl (ev_move (.inl rfl) rfl) (fun a23 hM22 => ?_)
      clear hM20
      refine s_val hM22 (.inl rfl) rfl rfl (ev_build2 (v := pairV ((j : Int), b)) rfl rfl rfl (fun w => by kernel_rfl)) (fun a25 hM24 => ?_)
      clear hM22
      obtain ⟨w2, hr2, hm2, hg2⟩ := HN.out.mp.drop keys_way under_ways ((j : Int), b) _ _
      refine s_delete (vx := .map (some mb)) (vy := pairV ((j : Int), b)) hM24 rfl rfl rfl rfl rfl hr2 ?_
      have c2 : Chg (fun x => x = mb) w1 w2 := Chg.of_grown hg2 (fun q e => by injection e with e; exact .inl e.symm)
      have HN2 := hide (HN.out.clear ((j : Int), b) c2 hm2)
      have HST2 := hide (clr_step hj.1 HST.out)
      have HCH2 := hide (HCH.out.trans c2 (fun _ h => .inl h))
      clear hr2 hm2 hg2 c2
      clear HB4
      have HB27 : Hid (Below w2.heap.size w2 w2) := Below.refl _ _
      refine seg_nil (hK11 _ _ ?_)
      clear hK11 K11 QK11
      have hM28 := hM24.cut3 (t1 := 0) (t2 := 1) (t3 := 4) rfl rfl rfl
      clear hM24
      refine region_then fun K29 QK29 hK29 => ?_
      refine s_val hM28 (.inl rfl) rfl rfl (ev_move (.inl rfl) rfl) (fun a31 hM30 => ?_)
      clear hM28
      refine s_val hM30 (.inl rfl) rfl rfl (ev_bin rfl rfl rfl g_int (b_add (r := ((j + 1 : Nat) : Int)) (by omega) (by omega))) (fun a33 hM32 => ?_)
      clear hM30
      refine s_val hM32 (.inl rfl) rfl rfl (ev_move (.inr rfl) rfl) (fun a35 hM34 => ?_)
      clear hM32
      refine seg_nil (hK29 _ _ ?_)
      clear hK29 K29 QK29
      have hM36 := hM34.cut3 (t1 := 0) (t2 := 1) (t3 := 4) rfl rfl rfl
      clear hM34
      have hM37 := hM36.cut3 (t1 := 0) (t2 := 1) (t3 := 4) rfl rfl rfl
      clear hM36
      refine wp_goto ?_
      repeat (with_reducible refine th_g ?_)
      refine Exit.jump_goto ⟨⟨j + 1, _, _, hM37, hide (show 1 ≤ j + 1 ∧ j + 1 ≤ 17 by omega), HN2, HST2, HCH2⟩, ?_⟩
      have e1 := hMM.ev (t := 4) rfl
      have e2 := hM37.ev (t := 4) rfl
      change (Act.tmps _).getD 4 undef = _ at e1 e2
      rw [e1, e2]
      simp only [intOf]
      omega
    case neg =>
      refine region_then fun K38 QK38 hK38 => ?_
      refine s_val hM0 (.inl rfl) rfl rfl (ev_move (.inl rfl) rfl) (fun a40 hM39 => ?_)
      clear hM0
      refine s_val hM39 (.inl rfl) rfl rfl (ev_bin rfl rfl rfl g_int (b_leq (b := false) (by rw [decide_eq_false_iff_not]; omega))) (fun a42 hM41 => ?_)
      clear hM39
      refine seg_nil (hK38 _ _ ?_)
      clear hK38 K38 QK38
      have hM43 := hM41.cut4 (t1 := 0) (t2 := 1) (t3 := 4) (t4 := 6) rfl rfl rfl rfl
      clear hM41
      refine wp_cond_false (hM43.ev (t := 6) rfl) ?_
      refine wp_skip ?_
      rw [Exit.jump_normal]
      refine norm_of rfl hM43 ⟨rfl, rows', st', HN.out, fun q => ?_, HCH.out⟩
      rw [HST.out q, show j = 17 by omega]
  ·
    refine region_then fun K0 Q0 hK0 => ?_
    refine s_val hM (.inl rfl) rfl rfl (ev_move (.inr rfl) rfl) (fun a45 hM44 => ?_)
    clear hM
    refine seg_nil (hK0 _ _ ?_)
    clear hK0 Q0
    refine wp_seq_k fun KL hKL => ?_
    refine wp_label ?_
    refine hKL _ _ ?_
    have hM46 := hM44.cut3 (t1 := 0) (t2 := 1) (t3 := 4) rfl rfl rfl
    clear hM44
    exact hgo _ _ ⟨1, rows, st, hM46, hide (by omega), hide HNJ.out, hide (fun q => by unfold clr; rw [if_neg (by omega)]), hide (Chg.refl _ _)⟩
end Go.Proofs.Ytflamhndmggiaaa
/-
  Contracts of package net in one word: a net above an elder world that reads as lists of bytes.
-/
namespace Go.Proofs.Ytflamhndmggiaaa
open Go.RowKit

def NtW (w0 w : World) (g : Nat) (S : Int × Int → List (List UInt8)) : Prop := ∃ F m rows st, NtJ F w g m rows st ∧ (∀ q, (st q).map (·.2) = S q) ∧ (∀ b, F b → w0.heap.size ≤ b) ∧ Below w0.heap.size w0 w
section
variable {w0 w w' : World} {g : Nat} {S : Int × Int → List (List UInt8)}
theorem NtW.below (h : NtW w0 w g S) (hb : Below w.heap.size w w') : NtW w0 w' g S := by
  obtain ⟨F, m, rows, st, h1, h2, h3, h4⟩ := h
  exact ⟨F, m, rows, st, h1.below hb, h2, h3, below_then h4 hb⟩
theorem NtW.old (h : NtW w0 w g S) : Below w0.heap.size w0 w := by
  obtain ⟨F, m, rows, st, h1, h2, h3, h4⟩ := h
  exact h4
theorem rowG_low {F : Nat → Prop} {m : Nat} {rows : Int × Int → Option Value} {st : Int × Int → List (Value × List UInt8)} (h : NtJ F w g m rows st) (hlo : ∀ b, F b → w0.heap.size ≤ b) (hb : Below w0.heap.size w0 w) {q : Int × Int} (hc : Chg (RowG m ((rows q).getD nilV)) w w') : Below w0.heap.size w0 w' :=
  hb.trans (hc.to_below (fun b e => hlo b (e.elim (fun e => by subst e; exact h.fm) (fun e => h.frow q b e))) hb.size)
theorem updS {st : Int × Int → List (Value × List UInt8)} {q : Int × Int} {l : List (Value × List UInt8)} (h : ∀ q, (st q).map (·.2) = S q) (p : Int × Int) : ((updF st q l) p).map (·.2) = updF S q (l.map (·.2)) p := by
  by_cases e : p = q
  · subst e; rw [updF_self, updF_self]
  · rw [updF_ne e, updF_ne e]; exact h p
theorem len_S {st : Int × Int → List (Value × List UInt8)} (h : ∀ q, (st q).map (·.2) = S q) (q : Int × Int) : (st q).length = (S q).length := by rw [← h q, List.length_map]
theorem at_S {st : Int × Int → List (Value × List UInt8)} (h : ∀ q, (st q).map (·.2) = S q) {q : Int × Int} {i : Nat} {x : List UInt8} (hx : (S q)[i]? = some x) : ∃ p, (st q)[i]? = some p ∧ p.2 = x := by
  rw [← h q, List.getElem?_map] at hx
  cases hp : (st q)[i]? with
  | none => rw [hp] at hx; cases hx
  | some p => rw [hp] at hx; injection hx with hx; exact ⟨p, rfl, hx⟩
theorem nw_New (w : World) : Calls Try.prog 41 #[] w fun e w' => ∃ g, e = .returned (.pointer (some ⟨g, 0, none⟩)) ∧ NtW w w' g (fun _ => []) := by
  refine (net_New w).mono ?_
  rintro e w' ⟨g, m, rfl, h1, h2, h3, h4⟩
  exact ⟨g, rfl, _, m, _, _, h1, fun _ => rfl, fun b hb => hb.elim (fun e => by omega) (fun e => by omega), h2⟩
theorem nw_Count (a b : Int) (h : NtW w0 w g S) : Calls Try.prog 45 #[.pointer (some ⟨g, 0, none⟩), .int .i64 a, .int .i64 b] w fun e w' => e = .returned (.int .i64 ((S (a, b)).length : Int)) ∧ w = w' := by
  obtain ⟨F, m, rows, st, h1, h2, _, _⟩ := h
  have := net_Count a b h1
  rw [len_S h2] at this
  exact this
theorem nw_Put_form {A : Option Addr} {n c : Nat} (a b : Int) (h : NtW w0 w g S) (hN : (nodeB a && nodeB b) = false) : Calls Try.prog 43 #[.pointer (some ⟨g, 0, none⟩), .int .i64 a, .int .i64 b, .slice A n c] w fun e w' => e = .returned (.int .i64 1) ∧ NtW w0 w' g S := by
  have h0 := h
  obtain ⟨F, m, rows, st, h1, h2, _, _⟩ := h
  refine (net_Put_form (x := []) a b h1 hN).mono ?_
  rintro e w' ⟨rfl, hb⟩
  exact ⟨rfl, h0.below hb⟩
theorem nw_Put_full {A : Option Addr} {n c : Nat} (a b : Int) (h : NtW w0 w g S) (hN : (nodeB a && nodeB b) = true) (hL : (S (a, b)).length = 1024) : Calls Try.prog 43 #[.pointer (some ⟨g, 0, none⟩), .int .i64 a, .int .i64 b, .slice A n c] w fun e w' => e = .returned (.int .i64 8) ∧ NtW w0 w' g S := by
  have h0 := h
  obtain ⟨F, m, rows, st, h1, h2, _, _⟩ := h
  refine (net_Put_full (x := []) a b h1 hN (by rw [len_S h2]; exact hL)).mono ?_
  rintro e w' ⟨rfl, hb⟩
  exact ⟨rfl, h0.below hb⟩
theorem nw_Put_ok {A : Option Addr} {n c : Nat} {x : List UInt8} (a b : Int) (h : NtW w0 w g S) (hN : (nodeB a && nodeB b) = true) (hL : (S (a, b)).length < 1024) (hs : Sl w 1 A n (bytes8 x)) (hx : n ≤ 1048576) :
    Calls Try.prog 43 #[.pointer (some ⟨g, 0, none⟩), .int .i64 a, .int .i64 b, .slice A n c] w fun e w' => e = .returned (.int .i64 0) ∧ NtW w0 w' g (updF S (a, b) (S (a, b) ++ [x])) := by
  obtain ⟨F, m, rows, st, h1, h2, h3, h4⟩ := h
  refine (net_Put_ok a b h1 hN (by rw [len_S h2]; exact hL) hs hx).mono ?_
  rintro e w' ⟨rfl, V', u, hJ, hc⟩
  refine ⟨rfl, _, m, _, _, hJ, fun q => ?_, fun q hq => hq.elim (h3 q) (fun h => Nat.le_trans h4.size h.1), rowG_low h1 h3 h4 hc⟩
  rw [updS h2, List.map_append, h2]
  rfl
theorem nw_Take_no (a b k : Int) (h : NtW w0 w g S) (hk : k < 0 ∨ ((S (a, b)).length : Int) ≤ k) : Calls Try.prog 46 #[.pointer (some ⟨g, 0, none⟩), .int .i64 a, .int .i64 b, .int .i64 k] w fun e w' => e = .returned (.tuple #[.slice none 0 0, .int .i64 3]) ∧ NtW w0 w' g S := by
  have h0 := h
  obtain ⟨F, m, rows, st, h1, h2, _, _⟩ := h
  refine (net_Take_no a b h1 k (by rw [len_S h2]; exact hk)).mono ?_
  rintro e w' ⟨rfl, hb⟩
  exact ⟨rfl, h0.below hb⟩
/-- What a taken message's block may become is nothing to the net. -/
theorem nw_Take_ok {i : Nat} {x : List UInt8} (a b : Int) (h : NtW w0 w g S) (hi : (S (a, b))[i]? = some x) :
    Calls Try.prog 46 #[.pointer (some ⟨g, 0, none⟩), .int .i64 a, .int .i64 b, .int .i64 (i : Int)] w fun e w' => ∃ v, e = .returned (.tuple #[v, .int .i64 0]) ∧ w'.ownsRow 0 5 1 v x.length (bytes8 x) ∧ (∀ q, v.ownBlock = some q → w0.heap.size ≤ q) ∧ NtW w0 w' g (updF S (a, b) ((S (a, b)).eraseIdx i)) ∧
      ∀ w'', Chg (fun q => v.ownBlock = some q) w' w'' → NtW w0 w'' g (updF S (a, b) ((S (a, b)).eraseIdx i)) := by
  obtain ⟨F, m, rows, st, h1, h2, h3, h4⟩ := h
  obtain ⟨p, hp, rfl⟩ := at_S h2 hi
  refine (net_Take_ok a b h1 hp).mono ?_
  rintro e w' ⟨rfl, V', hJ, ho, hc⟩
  have hS : ∀ q, ((updF st (a, b) ((st (a, b)).eraseIdx i)) q).map (·.2) = updF S (a, b) ((S (a, b)).eraseIdx i) q := fun q => by
    rw [updS h2, ChangeMaps.map_eraseIdx, h2]
  have hb := rowG_low h1 h3 h4 hc
  refine ⟨_, rfl, ho, fun q hq => h3 q (h1.fel _ p q (mem_of_at hp) hq), ⟨_, m, _, _, hJ, hS, fun q hq => h3 q hq.1, hb⟩, fun w'' hc2 => ⟨_, m, _, _, hJ.keep hc2 (fun q hq e => hq.2 e), hS, fun q hq => h3 q hq.1, ?_⟩⟩
  exact hb.trans (hc2.to_below (fun q hq => h3 q (h1.fel _ p q (mem_of_at hp) hq)) hb.size)
end
end Go.Proofs.Ytflamhndmggiaaa
