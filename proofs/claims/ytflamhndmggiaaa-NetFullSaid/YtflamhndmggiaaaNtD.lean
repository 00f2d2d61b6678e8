/-
  Contracts of package net: Put.
-/
import Derived.Test.YtflamhndmggiaaaGr11
set_option linter.unusedVariables false
set_option linter.unusedSimpArgs false
namespace Go.Proofs.Ytflamhndmggiaaa
open Go.RowKit

def TPut (W : World) (g m n c : Nat) (A : Option Addr) (a b : Int) (x : List UInt8) (i : Nat) (v : Value) (w : World) : Prop := match i with
  | 0 => v = .pointer (some ⟨g, 0, none⟩)
  | 1 => v = .pointer (some ⟨g, 0, none⟩)
  | 2 => v = .pointer (some ⟨g, 0, none⟩)
  | 3 => v = .map (some m)
  | 4 => v = .agg #[.int .i64 a, .int .i64 b]
  | 5 => v = .slice A n c
  | 6 => w.ownsRow W.heap.size 5 1 v n (bytes8 x)
  | 7 => ∃ gs u, v = .slice (some ⟨gs, 0, none⟩) 1 1 ∧ Blk w gs 28 #[u] ∧ W.heap.size ≤ gs ∧ w.ownsRow W.heap.size 5 1 u n (bytes8 x)
  | _ => True
theorem TPut.below {W : World} {g m n c : Nat} {A : Option Addr} {a b : Int} {x : List UInt8} : ∀ i v w w', TPut W g m n c A a b x i v w → Below w.heap.size w w' → TPut W g m n c A a b x i v w'
  | 0, _, _, _, h, _ => h
  | 1, _, _, _, h, _ => h
  | 2, _, _, _, h, _ => h
  | 3, _, _, _, h, _ => h
  | 4, _, _, _, h, _ => h
  | 5, _, _, _, h, _ => h
  | 6, _, _, _, h, hb => own_later h hb
  | 7, _, _, _, ⟨gs, u, e, hk, hl, ho⟩, hb => ⟨gs, u, e, hk.on hb, hl, own_later ho hb⟩
  | _ + 8, _, _, _, _, _ => trivial
theorem one_own {w : World} {B n : Nat} {e : TypeId} {u : Value} {xs : List Value} (h : w.ownsRow B e 1 u n xs) : ∀ z ∈ [u], z.oneCell' = true := by
  obtain ⟨A, c, rfl⟩ := own_slice h
  simp [Value.oneCell']
theorem own_keep_map {K : Type} {enc : K → Value} {f : K → Option Value} {w w' : World} {B n size m : Nat} {e : TypeId} {v : Value} {xs : List Value} (h : w.ownsRow B e size v n xs) (hg : w.grownBy w' (some m)) (hm : Mq w m enc f) : w'.ownsRow B e size v n xs :=
  own_at h (fun b hb => hg.block b (own_in h hb) (fun e => by injection e with e; subst e; exact own_not_map h hm hb))
theorem one_news {w : World} {g : Nat} {t : TypeId} {u : Value} (h : Blk w g t #[u]) : ∀ j v, [u][j]? = some v → w.cell? ((⟨g, 0, none⟩ : Addr).add j) = some v := fun j v hv => by
  rw [add_lit, Nat.zero_add]
  exact h.at_ (by simpa using hv)
theorem put_end {F : Nat → Prop} {w w1 w2 w3 w4 : World} {g m : Nat} {rows : Int × Int → Option Value} {st : Int × Int → List (Value × List UInt8)} {q : Int × Int} {u V2 : Value} {n : Nat} {x : List UInt8} (h : NtJ F w g m rows st) (hb : Below w.heap.size w w1) (hu : w1.ownsRow w.heap.size 5 1 u n (bytes8 x)) (hx : n ≤ 1048576) (hl : (st q).length < 1024)
    (hg1 : w1.grownBy w2 (some m)) (hg3 : w2.grownBy w3 ((rows q).getD nilV).ownBlock) (hg4 : w3.grownBy w4 (some m)) (hm2 : m < w2.heap.size) (ho : w3.ownsRow 0 28 1 V2 ((st q).length + 1) ((st q).map (·.1) ++ [u])) (hat : V2.ownBlock = ((rows q).getD nilV).ownBlock ∨ V2.ownBlock = some w2.heap.size) (hm4 : Mq w4 m pairV (updF rows q (some V2))) :
    ∃ V' u, NtJ (fun b => F b ∨ (w.heap.size ≤ b ∧ b < w4.heap.size)) w4 g m (updF rows q (some V')) (updF st q (st q ++ [(u, x)])) ∧ Chg (RowG m ((rows q).getD nilV)) w w4 := by
  have hn : x.length = n := by have := hu.1; rw [bytes8_len] at this; omega
  subst hn
  have h1 := h.below hb
  have hne : ((rows q).getD nilV).ownBlock ≠ some m := own_not_map (h1.own q) h1.mp
  have c1 : Chg (RowG m ((rows q).getD nilV)) w1 w2 := Chg.of_grown hg1 (fun b e => by injection e with e; exact .inl (.inl e.symm))
  have c3 := c1.then_grown hg3 (fun b e => .inl (.inr e))
  have c4 := c3.then_grown hg4 (fun b e => by injection e with e; exact .inl (.inl e.symm))
  have o4 : w4.ownsRow 0 28 1 V2 ((st q).length + 1) ((st q).map (·.1) ++ [u]) := own_at ho (fun b hb' => hg4.block b (own_in ho hb') (fun e => by
    injection e with e
    subst e
    rcases hat with e | e
    · rw [e] at hb'; exact hne hb'
    · rw [e] at hb'; injection hb' with hb'; omega))
  refine ⟨V2, u, h.push q hb hu hx hl c4 hm4 o4 ?_, (Chg.of_below (F := RowG m ((rows q).getD nilV)) hb).trans c4 (fun _ h => .inl h)⟩
  rcases hat with e | e
  · exact .inl e
  · exact .inr ⟨_, e, Nat.le_trans hb.size hg1.size⟩

set_option maxRecDepth 100000 in
set_option maxHeartbeats 4000000 in
theorem net_Put_form {F : Nat → Prop} {w : World} {g mb : Nat} {rows : Int × Int → Option Value} {st : Int × Int → List (Value × List UInt8)} {A : Option Addr} {n c : Nat} {x : List UInt8} (a b : Int) (h : NtJ F w g mb rows st) (hN : (nodeB a && nodeB b) = false) :
    Calls Try.prog 43 #[.pointer (some ⟨g, 0, none⟩), .int .i64 a, .int .i64 b, .slice A n c] w fun e w' => e = .returned (.int .i64 1) ∧ Below w.heap.size w w' := by
  obtain ⟨A0, c0, hv, hc0, hm0, _⟩ := h.row (a, b)
  have HL : Hid (∀ w', Below w.heap.size w w' → (Instr.lookup 111 (.map (some mb)) (pairV (a, b)) false).run Try.prog w' = .ok (.slice A0 (st (a, b)).length c0) w') := fun w' hb => h.look hv w' hb
  have HKG := hide h.k
  have HNJ := hide h
  have HV := hide hv
  rw [Bool.and_eq_false_iff] at hN
  clear h hv
  go_enter Try.func43, Try.ntmps43
  refine act_off 43 [(0, .pointer (some ⟨g, 0, none⟩)), (1, .int .i64 a), (2, .int .i64 b), (3, .slice A n c)] (Frm.start rfl (by intro p hp; simp only [List.mem_cons, List.not_mem_nil, or_false] at hp; rcases hp with rfl | rfl | rfl | rfl <;> rfl)) (fun a0 hM => ?_)
  have HB2 : Hid (Below w.heap.size w w) := Below.refl _ _
  refine region_then fun K3 QK3 hK3 => ?_
  refine s_val hM (.inl rfl) rfl rfl (ev_move (.inr rfl) rfl) (fun a5 hM4 => ?_)
  clear hM
  refine seg_nil (hK3 _ _ ?_)
  clear hK3 K3 QK3
  have hM6 := hM4.cut5 (t1 := 0) (t2 := 1) (t3 := 2) (t4 := 3) (t5 := 8) rfl rfl rfl rfl rfl
  clear hM4
  refine region_then fun K7 QK7 hK7 => ?_
  refine s_val hM6 (.inl rfl) rfl rfl (ev_move (.inl rfl) rfl) (fun a9 hM8 => ?_)
  clear hM6
  refine s_val hM8 (.inl rfl) rfl rfl (ev_move (.inl rfl) rfl) (fun a11 hM10 => ?_)
  clear hM8
  refine s_val hM10 (.inl rfl) rfl rfl (ev_build2 (v := .agg #[.int .i64 a, .int .i64 b]) rfl rfl rfl (fun w => by kernel_rfl)) (fun a13 hM12 => ?_)
  clear hM10
  refine s_new hM12 rfl rfl rfl rfl alloc_way rfl rfl rfl rfl info_way rfl one_way (fun g14 a20 w15 hM19 KB18_ hb16 hg17 => ?_)
  have KB18 := hide KB18_
  clear hM12 KB18_
  clear hg17
  have HB21 := hide (below_then HB2.out hb16)
  clear hb16 HB2
  have HB23 : Hid (Below w15.heap.size w15 w15) := Below.refl _ _
  refine seg_nil (hK7 _ _ ?_)
  clear hK7 K7 QK7
  have hM24 := hM19.cut6 (t1 := 0) (t2 := 1) (t3 := 2) (t4 := 3) (t5 := 8) (t6 := 9) rfl rfl rfl rfl rfl rfl
  clear hM19
  refine wp_seq_k fun K25 hK25 => ?_
  refine wp_block ?_
  cases hna : nodeB a
  case false =>
    have HNA := hide hna
    refine region_then fun K26 QK26 hK26 => ?_
    refine s_val hM24 (.inl rfl) rfl rfl (ev_move (.inl rfl) rfl) (fun a28 hM27 => ?_)
    clear hM24
    refine s_call hM27 (.inl rfl) rfl rfl (f := 73) (args := #[.int .i64 a]) (ev_call hM27 rfl rfl rfl (fun w => by simp [go_sem]) _) (net_nodeR _ _ HNA) (fun e w29 hp => ?_)
    obtain ⟨rfl, rfl⟩ := hp
    refine ⟨_, rfl, fun a32 hM31 => ?_⟩
    clear hM27
    refine s_val hM31 (.inl rfl) rfl rfl (ev_not rfl rfl rfl) (fun a34 hM33 => ?_)
    clear hM31
    refine s_val hM33 (.inl rfl) rfl rfl (ev_move (.inl rfl) rfl) (fun a36 hM35 => ?_)
    clear hM33
    refine s_skip hM35 rfl rfl rfl rfl rfl rfl (fun a38 hM37 => ?_)
    clear hM35
    refine s_skip hM37 rfl rfl rfl rfl rfl rfl (fun a40 hM39 => ?_)
    clear hM37
    refine s_skip hM39 rfl rfl rfl rfl rfl rfl (fun a42 hM41 => ?_)
    clear hM39
    refine s_val hM41 (.inl rfl) rfl rfl (ev_pick rfl rfl rfl) (fun a44 hM43 => ?_)
    clear hM41
    refine s_val hM43 (.inl rfl) rfl rfl (ev_move (.inr rfl) rfl) (fun a46 hM45 => ?_)
    clear hM43
    refine seg_nil (hK26 _ _ ?_)
    clear hK26 K26 QK26
    have hM47 := hM45.cut7 (t1 := 0) (t2 := 1) (t3 := 2) (t4 := 3) (t5 := 8) (t6 := 9) (t7 := 13) rfl rfl rfl rfl rfl rfl rfl
    clear hM45
    refine wp_cond_true (hM47.ev (t := 13) rfl) ?_
    refine region_then fun K48 QK48 hK48 => ?_
    refine s_val hM47 (.inl rfl) rfl rfl (ev_move (.inr rfl) rfl) (fun a50 hM49 => ?_)
    clear hM47
    refine seg_nil (hK48 _ _ ?_)
    clear hK48 K48 QK48
    have hM51 := hM49.cut1 (t1 := 8) rfl
    clear hM49
    refine wp_ret ?_
    repeat (with_reducible first | refine th_r ?_ | refine inb_r ?_ | refine js_r ?_)
    refine ret_of (t := 8) rfl hM51 rfl ?_
    exact ⟨rfl, HB21.out⟩
  case true =>
    have HNA := hide hna
    have HNB : Hid (nodeB b = false) := hN.resolve_left (by rw [hna]; simp)
    refine region_then fun K52 QK52 hK52 => ?_
    refine s_val hM24 (.inl rfl) rfl rfl (ev_move (.inl rfl) rfl) (fun a54 hM53 => ?_)
    clear hM24
    refine s_call hM53 (.inl rfl) rfl rfl (f := 73) (args := #[.int .i64 a]) (ev_call hM53 rfl rfl rfl (fun w => by simp [go_sem]) _) (net_nodeR _ _ HNA) (fun e w55 hp => ?_)
    obtain ⟨rfl, rfl⟩ := hp
    refine ⟨_, rfl, fun a58 hM57 => ?_⟩
    clear hM53
    refine s_val hM57 (.inl rfl) rfl rfl (ev_not rfl rfl rfl) (fun a60 hM59 => ?_)
    clear hM57
    refine s_val hM59 (.inl rfl) rfl rfl (ev_move (.inl rfl) rfl) (fun a62 hM61 => ?_)
    clear hM59
    refine s_val hM61 (.inr ⟨_, _, _, rfl, rfl, rfl⟩) rfl rfl (ev_move (.inl rfl) rfl) (fun a64 hM63 => ?_)
    clear hM61
    refine s_call hM63 (.inr ⟨_, _, _, rfl, rfl, rfl⟩) rfl rfl (f := 73) (args := #[.int .i64 b]) (ev_call hM63 rfl rfl rfl (fun w => by simp [go_sem]) _) (net_nodeR _ _ HNB) (fun e w65 hp => ?_)
    obtain ⟨rfl, rfl⟩ := hp
    refine ⟨_, rfl, fun a68 hM67 => ?_⟩
    clear hM63
    refine s_val hM67 (.inr ⟨_, _, _, rfl, rfl, rfl⟩) rfl rfl (ev_not rfl rfl rfl) (fun a70 hM69 => ?_)
    clear hM67
    refine s_val hM69 (.inl rfl) rfl rfl (ev_pick rfl rfl rfl) (fun a72 hM71 => ?_)
    clear hM69
    refine s_val hM71 (.inl rfl) rfl rfl (ev_move (.inr rfl) rfl) (fun a74 hM73 => ?_)
    clear hM71
    refine seg_nil (hK52 _ _ ?_)
    clear hK52 K52 QK52
    have hM75 := hM73.cut7 (t1 := 0) (t2 := 1) (t3 := 2) (t4 := 3) (t5 := 8) (t6 := 9) (t7 := 13) rfl rfl rfl rfl rfl rfl rfl
    clear hM73
    refine wp_cond_true (hM75.ev (t := 13) rfl) ?_
    refine region_then fun K76 QK76 hK76 => ?_
    refine s_val hM75 (.inl rfl) rfl rfl (ev_move (.inr rfl) rfl) (fun a78 hM77 => ?_)
    clear hM75
    refine seg_nil (hK76 _ _ ?_)
    clear hK76 K76 QK76
    have hM79 := hM77.cut1 (t1 := 8) rfl
    clear hM77
    refine wp_ret ?_
    repeat (with_reducible first | refine th_r ?_ | refine inb_r ?_ | refine js_r ?_)
    refine ret_of (t := 8) rfl hM79 rfl ?_
    exact ⟨rfl, HB21.out⟩

set_option maxRecDepth 100000 in
set_option maxHeartbeats 4000000 in
theorem net_Put_full {F : Nat → Prop} {w : World} {g mb : Nat} {rows : Int × Int → Option Value} {st : Int × Int → List (Value × List UInt8)} {A : Option Addr} {n c : Nat} {x : List UInt8} (a b : Int) (h : NtJ F w g mb rows st) (hN : (nodeB a && nodeB b) = true) (hL : (st (a, b)).length = 1024) :
    Calls Try.prog 43 #[.pointer (some ⟨g, 0, none⟩), .int .i64 a, .int .i64 b, .slice A n c] w fun e w' => e = .returned (.int .i64 8) ∧ Below w.heap.size w w' := by
  obtain ⟨A0, c0, hv, hc0, hm0, _⟩ := h.row (a, b)
  have HL : Hid (∀ w', Below w.heap.size w w' → (Instr.lookup 111 (.map (some mb)) (pairV (a, b)) false).run Try.prog w' = .ok (.slice A0 (st (a, b)).length c0) w') := fun w' hb => h.look hv w' hb
  have HKG := hide h.k
  have HNJ := hide h
  have HV := hide hv
  rw [Bool.and_eq_true] at hN
  obtain ⟨hNa, hNb⟩ := hN
  have HNA := hide hNa
  have HNB := hide hNb
  have HLN := hide hL
  clear h hv
  go_enter Try.func43, Try.ntmps43
  refine act_off 43 [(0, .pointer (some ⟨g, 0, none⟩)), (1, .int .i64 a), (2, .int .i64 b), (3, .slice A n c)] (Frm.start rfl (by intro p hp; simp only [List.mem_cons, List.not_mem_nil, or_false] at hp; rcases hp with rfl | rfl | rfl | rfl <;> rfl)) (fun a0 hM => ?_)
  have HB2 : Hid (Below w.heap.size w w) := Below.refl _ _
  refine region_then fun K3 QK3 hK3 => ?_
  refine s_val hM (.inl rfl) rfl rfl (ev_move (.inr rfl) rfl) (fun a5 hM4 => ?_)
  clear hM
  refine seg_nil (hK3 _ _ ?_)
  clear hK3 K3 QK3
  have hM6 := hM4.cut5 (t1 := 0) (t2 := 1) (t3 := 2) (t4 := 3) (t5 := 8) rfl rfl rfl rfl rfl
  clear hM4
  refine region_then fun K7 QK7 hK7 => ?_
  refine s_val hM6 (.inl rfl) rfl rfl (ev_move (.inl rfl) rfl) (fun a9 hM8 => ?_)
  clear hM6
  refine s_val hM8 (.inl rfl) rfl rfl (ev_move (.inl rfl) rfl) (fun a11 hM10 => ?_)
  clear hM8
  refine s_val hM10 (.inl rfl) rfl rfl (ev_build2 (v := .agg #[.int .i64 a, .int .i64 b]) rfl rfl rfl (fun w => by kernel_rfl)) (fun a13 hM12 => ?_)
  clear hM10
  refine s_new hM12 rfl rfl rfl rfl alloc_way rfl rfl rfl rfl info_way rfl one_way (fun g14 a20 w15 hM19 KB18_ hb16 hg17 => ?_)
  have KB18 := hide KB18_
  clear hM12 KB18_
  clear hg17
  have HB21 := hide (below_then HB2.out hb16)
  clear hb16 HB2
  have HB23 : Hid (Below w15.heap.size w15 w15) := Below.refl _ _
  refine seg_nil (hK7 _ _ ?_)
  clear hK7 K7 QK7
  have hM24 := hM19.cut6 (t1 := 0) (t2 := 1) (t3 := 2) (t4 := 3) (t5 := 8) (t6 := 9) rfl rfl rfl rfl rfl rfl
  clear hM19
  refine wp_seq_k fun K25 hK25 => ?_
  refine wp_block ?_
  refine region_then fun K26 QK26 hK26 => ?_
  refine s_val hM24 (.inl rfl) rfl rfl (ev_move (.inl rfl) rfl) (fun a28 hM27 => ?_)
  clear hM24
  refine s_call hM27 (.inl rfl) rfl rfl (f := 73) (args := #[.int .i64 a]) (ev_call hM27 rfl rfl rfl (fun w => by simp [go_sem]) _) (net_nodeR _ _ HNA) (fun e w29 hp => ?_)
  obtain ⟨rfl, rfl⟩ := hp
  refine ⟨_, rfl, fun a32 hM31 => ?_⟩
  clear hM27
  refine s_val hM31 (.inl rfl) rfl rfl (ev_not rfl rfl rfl) (fun a34 hM33 => ?_)
  clear hM31
  refine s_val hM33 (.inl rfl) rfl rfl (ev_move (.inl rfl) rfl) (fun a36 hM35 => ?_)
  clear hM33
  refine s_val hM35 (.inr ⟨_, _, _, rfl, rfl, rfl⟩) rfl rfl (ev_move (.inl rfl) rfl) (fun a38 hM37 => ?_)
  clear hM35
  refine s_call hM37 (.inr ⟨_, _, _, rfl, rfl, rfl⟩) rfl rfl (f := 73) (args := #[.int .i64 b]) (ev_call hM37 rfl rfl rfl (fun w => by simp [go_sem]) _) (net_nodeR _ _ HNB) (fun e w39 hp => ?_)
  obtain ⟨rfl, rfl⟩ := hp
  refine ⟨_, rfl, fun a42 hM41 => ?_⟩
  clear hM37
  refine s_val hM41 (.inr ⟨_, _, _, rfl, rfl, rfl⟩) rfl rfl (ev_not rfl rfl rfl) (fun a44 hM43 => ?_)
  clear hM41
  refine s_val hM43 (.inl rfl) rfl rfl (ev_pick rfl rfl rfl) (fun a46 hM45 => ?_)
  clear hM43
  refine s_val hM45 (.inl rfl) rfl rfl (ev_move (.inr rfl) rfl) (fun a48 hM47 => ?_)
  clear hM45
  refine seg_nil (hK26 _ _ ?_)
  clear hK26 K26 QK26
  have hM49 := hM47.cut7 (t1 := 0) (t2 := 1) (t3 := 2) (t4 := 3) (t5 := 8) (t6 := 9) (t7 := 13) rfl rfl rfl rfl rfl rfl rfl
  clear hM47
  refine wp_cond_false (hM49.ev (t := 13) rfl) ?_
  refine q_open (by kernel_rfl) (by kernel_rfl) fun K50 hK50 => ?_
  refine q_val hM49 (.inl rfl) rfl rfl (fun m => (ev_move (.inl rfl) rfl)) (fun a52 hM51 => ?_)
  clear hM49
  refine q_val hM51 (.inl rfl) rfl rfl (fun m => (ev_nilc rfl rfl)) (fun a54 hM53 => ?_)
  clear hM51
  refine q_val hM53 (.inl rfl) rfl rfl (fun m => (ev_fldw (m := 0) rfl rfl (fun w => by simp [go_sem]))) (fun a56 hM55 => ?_)
  clear hM53
  refine q_val hM55 (.inl rfl) rfl rfl (fun m => (ev_load1 (v := .map (some mb)) rfl rfl (((HKG.out.on HB21.out).on (Wd.below m)).rng.at_ (m := 0) rfl) (isAgg_no Try.underlying111 rfl))) (fun a58 hM57 => ?_)
  clear hM55
  refine q_val hM57 (.inl rfl) rfl rfl (fun m => (ev_loadm rfl rfl ((KB18.out.on HB23.out).on (Wd.below m)).rng Try.underlying115 rfl info_way)) (fun a60 hM59 => ?_)
  clear hM57
  refine q_val hM59 (.inl rfl) rfl rfl (fun m => (ev_look (m := mb) (k := (a, b)) rfl rfl rfl (HL.out _ (below_then HB21.out (Wd.below m))))) (fun a62 hM61 => ?_)
  clear hM59
  refine q_val hM61 (.inl rfl) rfl rfl (fun m => (ev_len rfl rfl Try.underlying57)) (fun a64 hM63 => ?_)
  clear hM61
  refine q_val hM63 (.inl rfl) rfl rfl (fun m => (ev_bin rfl rfl rfl g_int (b_eql (b := true) (by have := HLN.out; first | (rw [decide_eq_true_eq]; omega) | (rw [decide_eq_false_iff_not]; omega))))) (fun a66 hM65 => ?_)
  clear hM63
  refine q_val hM65 (.inl rfl) rfl rfl (fun m => (ev_move (.inr rfl) rfl)) (fun a68 hM67 => ?_)
  clear hM65
  refine wpQuiet_nil (hK50 _ fun w69 hb70 => ?_)
  clear hK50 K50
  have HB71 := hide (below_then HB21.out hb70)
  have HB72 := hide (below_then HB23.out hb70)
  clear hb70 HB21 HB23
  have hM73 := hM67.cut7 (t1 := 0) (t2 := 1) (t3 := 2) (t4 := 3) (t5 := 8) (t6 := 9) (t7 := 22) rfl rfl rfl rfl rfl rfl rfl
  clear hM67
  refine wp_cond_true (hM73.ev (t := 22) rfl) ?_
  refine region_then fun K74 QK74 hK74 => ?_
  refine s_val hM73 (.inl rfl) rfl rfl (ev_move (.inr rfl) rfl) (fun a76 hM75 => ?_)
  clear hM73
  refine seg_nil (hK74 _ _ ?_)
  clear hK74 K74 QK74
  have hM77 := hM75.cut1 (t1 := 8) rfl
  clear hM75
  refine wp_ret ?_
  repeat (with_reducible first | refine th_r ?_ | refine inb_r ?_ | refine js_r ?_)
  refine ret_of (t := 8) rfl hM77 rfl ?_
  exact ⟨rfl, HB71.out⟩

set_option maxRecDepth 100000 in
set_option maxHeartbeats 4000000 in
theorem net_Put_ok {F : Nat → Prop} {w : World} {g mb : Nat} {rows : Int × Int → Option Value} {st : Int × Int → List (Value × List UInt8)} {A : Option Addr} {n c : Nat} {x : List UInt8} (a b : Int) (h : NtJ F w g mb rows st) (hN : (nodeB a && nodeB b) = true) (hL : (st (a, b)).length < 1024) (hs : Sl w 1 A n (bytes8 x)) (hx : n ≤ 1048576) :
    Calls Try.prog 43 #[.pointer (some ⟨g, 0, none⟩), .int .i64 a, .int .i64 b, .slice A n c] w fun e w' => e = .returned (.int .i64 0) ∧ ∃ V' u, NtJ (fun q => F q ∨ (w.heap.size ≤ q ∧ q < w'.heap.size)) w' g mb (updF rows (a, b) (some V')) (updF st (a, b) (st (a, b) ++ [(u, x)])) ∧ Chg (RowG mb ((rows (a, b)).getD nilV)) w w' := by
  obtain ⟨A0, c0, hv, hc0, hm0, _⟩ := h.row (a, b)
  have HL : Hid (∀ w', Below w.heap.size w w' → (Instr.lookup 111 (.map (some mb)) (pairV (a, b)) false).run Try.prog w' = .ok (.slice A0 (st (a, b)).length c0) w') := fun w' hb => h.look hv w' hb
  have HKG := hide h.k
  have HNJ := hide h
  have HV := hide hv
  rw [Bool.and_eq_true] at hN
  obtain ⟨hNa, hNb⟩ := hN
  have HNA := hide hNa
  have HNB := hide hNb
  have HLN := hide hL
  have HS := hide hs
  have HX := hide hx
  clear hs
  clear h hv
  go_enter Try.func43, Try.ntmps43
  refine act_off 43 [(0, .pointer (some ⟨g, 0, none⟩)), (1, .int .i64 a), (2, .int .i64 b), (3, .slice A n c)] (Frm.start rfl (by intro p hp; simp only [List.mem_cons, List.not_mem_nil, or_false] at hp; rcases hp with rfl | rfl | rfl | rfl <;> rfl)) (fun a0 hM => ?_)
  have HB2 : Hid (Below w.heap.size w w) := Below.refl _ _
  refine region_then fun K3 QK3 hK3 => ?_
  refine s_val hM (.inl rfl) rfl rfl (ev_move (.inr rfl) rfl) (fun a5 hM4 => ?_)
  clear hM
  refine seg_nil (hK3 _ _ ?_)
  clear hK3 K3 QK3
  have hM6 := hM4.cut5 (t1 := 0) (t2 := 1) (t3 := 2) (t4 := 3) (t5 := 8) rfl rfl rfl rfl rfl
  clear hM4
  refine region_then fun K7 QK7 hK7 => ?_
  refine s_val hM6 (.inl rfl) rfl rfl (ev_move (.inl rfl) rfl) (fun a9 hM8 => ?_)
  clear hM6
  refine s_val hM8 (.inl rfl) rfl rfl (ev_move (.inl rfl) rfl) (fun a11 hM10 => ?_)
  clear hM8
  refine s_val hM10 (.inl rfl) rfl rfl (ev_build2 (v := .agg #[.int .i64 a, .int .i64 b]) rfl rfl rfl (fun w => by kernel_rfl)) (fun a13 hM12 => ?_)
  clear hM10
  refine s_new hM12 rfl rfl rfl rfl alloc_way rfl rfl rfl rfl info_way rfl one_way (fun g14 a20 w15 hM19 KB18_ hb16 hg17 => ?_)
  have KB18 := hide KB18_
  clear hM12 KB18_
  clear hg17
  have HB21 := hide (below_then HB2.out hb16)
  clear hb16 HB2
  have HB23 : Hid (Below w15.heap.size w15 w15) := Below.refl _ _
  refine seg_nil (hK7 _ _ ?_)
  clear hK7 K7 QK7
  have hM24 := hM19.cut6 (t1 := 0) (t2 := 1) (t3 := 2) (t4 := 3) (t5 := 8) (t6 := 9) rfl rfl rfl rfl rfl rfl
  clear hM19
  refine wp_seq_k fun K25 hK25 => ?_
  refine wp_block ?_
  refine region_then fun K26 QK26 hK26 => ?_
  refine s_val hM24 (.inl rfl) rfl rfl (ev_move (.inl rfl) rfl) (fun a28 hM27 => ?_)
  clear hM24
  refine s_call hM27 (.inl rfl) rfl rfl (f := 73) (args := #[.int .i64 a]) (ev_call hM27 rfl rfl rfl (fun w => by simp [go_sem]) _) (net_nodeR _ _ HNA) (fun e w29 hp => ?_)
  obtain ⟨rfl, rfl⟩ := hp
  refine ⟨_, rfl, fun a32 hM31 => ?_⟩
  clear hM27
  refine s_val hM31 (.inl rfl) rfl rfl (ev_not rfl rfl rfl) (fun a34 hM33 => ?_)
  clear hM31
  refine s_val hM33 (.inl rfl) rfl rfl (ev_move (.inl rfl) rfl) (fun a36 hM35 => ?_)
  clear hM33
  refine s_val hM35 (.inr ⟨_, _, _, rfl, rfl, rfl⟩) rfl rfl (ev_move (.inl rfl) rfl) (fun a38 hM37 => ?_)
  clear hM35
  refine s_call hM37 (.inr ⟨_, _, _, rfl, rfl, rfl⟩) rfl rfl (f := 73) (args := #[.int .i64 b]) (ev_call hM37 rfl rfl rfl (fun w => by simp [go_sem]) _) (net_nodeR _ _ HNB) (fun e w39 hp => ?_)
  obtain ⟨rfl, rfl⟩ := hp
  refine ⟨_, rfl, fun a42 hM41 => ?_⟩
  clear hM37
  refine s_val hM41 (.inr ⟨_, _, _, rfl, rfl, rfl⟩) rfl rfl (ev_not rfl rfl rfl) (fun a44 hM43 => ?_)
  clear hM41
  refine s_val hM43 (.inl rfl) rfl rfl (ev_pick rfl rfl rfl) (fun a46 hM45 => ?_)
  clear hM43
  refine s_val hM45 (.inl rfl) rfl rfl (ev_move (.inr rfl) rfl) (fun a48 hM47 => ?_)
  clear hM45
  refine seg_nil (hK26 _ _ ?_)
  clear hK26 K26 QK26
  have hM49 := hM47.cut7 (t1 := 0) (t2 := 1) (t3 := 2) (t4 := 3) (t5 := 8) (t6 := 9) (t7 := 13) rfl rfl rfl rfl rfl rfl rfl
  clear hM47
  refine wp_cond_false (hM49.ev (t := 13) rfl) ?_
  refine q_open (by kernel_rfl) (by kernel_rfl) fun K50 hK50 => ?_
  refine q_val hM49 (.inl rfl) rfl rfl (fun m => (ev_move (.inl rfl) rfl)) (fun a52 hM51 => ?_)
  clear hM49
  refine q_val hM51 (.inl rfl) rfl rfl (fun m => (ev_nilc rfl rfl)) (fun a54 hM53 => ?_)
  clear hM51
  refine q_val hM53 (.inl rfl) rfl rfl (fun m => (ev_fldw (m := 0) rfl rfl (fun w => by simp [go_sem]))) (fun a56 hM55 => ?_)
  clear hM53
  refine q_val hM55 (.inl rfl) rfl rfl (fun m => (ev_load1 (v := .map (some mb)) rfl rfl (((HKG.out.on HB21.out).on (Wd.below m)).rng.at_ (m := 0) rfl) (isAgg_no Try.underlying111 rfl))) (fun a58 hM57 => ?_)
  clear hM55
  refine q_val hM57 (.inl rfl) rfl rfl (fun m => (ev_loadm rfl rfl ((KB18.out.on HB23.out).on (Wd.below m)).rng Try.underlying115 rfl info_way)) (fun a60 hM59 => ?_)
  clear hM57
  refine q_val hM59 (.inl rfl) rfl rfl (fun m => (ev_look (m := mb) (k := (a, b)) rfl rfl rfl (HL.out _ (below_then HB21.out (Wd.below m))))) (fun a62 hM61 => ?_)
  clear hM59
  refine q_val hM61 (.inl rfl) rfl rfl (fun m => (ev_len rfl rfl Try.underlying57)) (fun a64 hM63 => ?_)
  clear hM61
  refine q_val hM63 (.inl rfl) rfl rfl (fun m => (ev_bin rfl rfl rfl g_int (b_eql (b := false) (by have := HLN.out; first | (rw [decide_eq_true_eq]; omega) | (rw [decide_eq_false_iff_not]; omega))))) (fun a66 hM65 => ?_)
  clear hM63
  refine q_val hM65 (.inl rfl) rfl rfl (fun m => (ev_move (.inr rfl) rfl)) (fun a68 hM67 => ?_)
  clear hM65
  refine wpQuiet_nil (hK50 _ fun w69 hb70 => ?_)
  clear hK50 K50
  have HB71 := hide (below_then HB21.out hb70)
  have HB72 := hide (below_then HB23.out hb70)
  clear hb70 HB21 HB23
  have hM73 := hM67.cut7 (t1 := 0) (t2 := 1) (t3 := 2) (t4 := 3) (t5 := 8) (t6 := 9) (t7 := 22) rfl rfl rfl rfl rfl rfl rfl
  clear hM67
  refine wp_cond_false (hM73.ev (t := 22) rfl) ?_
  refine wp_skip ?_
  refine inb_n ?_
  refine hK25 _ _ ?_
  have hs6 := hide (HS.out.below HB71.out)
  have hg6 := hide (HKG.out.on HB71.out)
  have hw6 := hide (KB18.out.on HB72.out)
  refine wp_mono_region (P := Try.prog) (by kernel_rfl) 8 13 (monoR_of (by kernel_rfl)) (TPut w69 g mb n c A a b x) (fun _ _ => none) hM73 TPut.below (fun i v w _ b hb => (by cases hb)) (fun i o hi ho a1 w' f hb hM hd Kc hK => ?_) (fun fuel a1 w' f hf hJ => ?_)
  case refine_1 =>
    have hio : i = 0 ∨ i = 1 ∨ i = 2 ∨ i = 3 ∨ i = 4 ∨ i = 5 ∨ i = 6 ∨ i = 7 := by omega
    have kg := hg6.out.on hb
    have kw := hw6.out.on hb
    have ks := hs6.out.below hb
    rcases hio with rfl | rfl | rfl | rfl | rfl | rfl | rfl | rfl
    · have ho2 := Option.some.inj ho
      subst ho2
      have hM2 := hM
      exact n_val (d := 31) ho hM2 (.inl rfl) rfl ((ev_move (.inl rfl) rfl) a1 _ hM2) (hK _ _ rfl (Below.refl _ _) (fun b hb => (by cases hb)))
    · have ho2 := Option.some.inj ho
      subst ho2
      obtain ⟨h0, e0⟩ := hd 0 (n_dep (by kernel_rfl))
      rw [show f 0 = .pointer (some ⟨g, 0, none⟩) from e0] at h0
      have hM2 := h0
      exact n_val (d := 32) ho hM2 (.inl rfl) rfl ((ev_nilc rfl rfl) a1 _ hM2) (hK _ _ rfl (Below.refl _ _) (fun b hb => (by cases hb)))
    · have ho2 := Option.some.inj ho
      subst ho2
      obtain ⟨h1, e1⟩ := hd 1 (n_dep (by kernel_rfl))
      rw [show f 1 = .pointer (some ⟨g, 0, none⟩) from e1] at h1
      have hM2 := h1
      exact n_val (d := 33) ho hM2 (.inl rfl) rfl ((ev_fldw (m := 0) rfl rfl (fun w => by simp [go_sem])) a1 _ hM2) (hK _ _ rfl (Below.refl _ _) (fun b hb => (by cases hb)))
    · have ho2 := Option.some.inj ho
      subst ho2
      obtain ⟨h2, e2⟩ := hd 2 (n_dep (by kernel_rfl))
      rw [show f 2 = .pointer (some ⟨g, 0, none⟩) from e2] at h2
      have hM2 := h2
      exact n_val (d := 34) ho hM2 (.inl rfl) rfl ((ev_load1 (v := .map (some mb)) rfl rfl (kg.rng.at_ (m := 0) rfl) (isAgg_no Try.underlying111 rfl)) a1 _ hM2) (hK _ _ rfl (Below.refl _ _) (fun b hb => (by cases hb)))
    · have ho2 := Option.some.inj ho
      subst ho2
      have hM2 := hM
      exact n_val (d := 35) ho hM2 (.inl rfl) rfl ((ev_loadm (C := #[.int .i64 a, .int .i64 b]) rfl rfl kw.rng Try.underlying115 rfl info_way) a1 _ hM2) (hK _ _ rfl (Below.refl _ _) (fun b hb => (by cases hb)))
    · have ho2 := Option.some.inj ho
      subst ho2
      have hM2 := hM
      exact n_val (d := 37) ho hM2 (.inl rfl) rfl ((ev_move (.inl rfl) rfl) a1 _ hM2) (hK _ _ rfl (Below.refl _ _) (fun b hb => (by cases hb)))
    · have ho2 := Option.some.inj ho
      subst ho2
      obtain ⟨h5, e5⟩ := hd 5 (n_dep (by kernel_rfl))
      rw [show f 5 = .slice A n c from e5] at h5
      refine n_call (d := 38) (f := 69) (args := #[.slice A n c]) ho h5 (.inl rfl) rfl (ev_call h5 rfl rfl rfl (fun w => by simp [go_sem]) _) (clone_bytes _ ks (by have := HX.out; omega)) (fun e w2 hp => ?_)
      obtain ⟨v1, rfl, o1, hb1⟩ := hp
      exact ⟨_, rfl, hK _ _ (own_mono o1 hb.size) hb1 (fun b hb => (by cases hb))⟩
    · have ho2 := Option.some.inj ho
      subst ho2
      obtain ⟨h6, e6⟩ := hd 6 (n_dep (by kernel_rfl))
      obtain ⟨A6, c6, e6b⟩ := own_slice (show w'.ownsRow w69.heap.size 5 1 (f 6) n (bytes8 x) from e6)
      have e6c : w'.ownsRow w69.heap.size 5 1 (f 6) n (bytes8 x) := e6
      rw [e6b] at h6 e6c
      refine n_val (d := 39) ho h6 (.inl rfl) rfl (ev_bsg (C := #[.slice A6 n c6]) h6 rfl rfl (fun w => by kernel_rfl)) (hK _ _ ⟨_, _, rfl, Blk.new _ _ _, hb.size, own_later e6c (below_alloc_ _ _)⟩ (below_alloc_ _ _) (fun b hb => (by cases hb)))
  obtain ⟨fuel, rfl⟩ : ∃ q, fuel = q + 5 := ⟨fuel - 5, by omega⟩
  obtain ⟨h3, e3⟩ := hJ.val 3 (by omega) trivial
  obtain ⟨h4, e4⟩ := hJ.val 4 (by omega) trivial
  obtain ⟨h7, gs, u, e7, ks, hgs, ou⟩ := hJ.val 7 (by omega) trivial
  rw [show f 3 = .map (some mb) from e3] at h3
  rw [show f 4 = .agg #[.int .i64 a, .int .i64 b] from e4] at h4
  rw [e7] at h7
  have hMx := (h3.more h4).more h7
  have hbW := below_then HB71.out hJ.below
  have hJ1 := HNJ.out.below hbW
  obtain ⟨sm, w1, hr1, hg1, hm1, hst⟩ := hJ1.mp.entry keys_way under_ways zero_rows (a, b)
  refine n_only 8 (by kernel_rfl) (n_val (d := 40) rfl hMx (.inl rfl) rfl (run_entry hMx rfl rfl rfl hr1) ?_)
  have hM8 := hMx.put (d := 40) (by decide) (.tuple #[(rows (a, b)).getD nilV, goInt sm])
  refine wpAny_of_z (S := fun _ => True) (z := 12) _ _ _ _ ?_
  refine z_val 9 rfl rfl (by kernel_rfl) (by kernel_rfl) (by kernel_rfl) (by kernel_rfl) (by kernel_rfl) hM8 (.inl rfl) rfl rfl trivial (fun w' _ => ev_ext (v := (rows (a, b)).getD nilV) rfl rfl rfl) (fun a9 hM9 => ?_)
  refine z_val 11 rfl rfl (by kernel_rfl) (by kernel_rfl) (by kernel_rfl) (by kernel_rfl) (by kernel_rfl) hM9 (.inl rfl) rfl rfl trivial (fun w' _ => ev_ext (v := goInt sm) rfl rfl rfl) (fun a11 hM11 => ?_)
  obtain ⟨i0, hi, hz0, hz1, hz2⟩ := info_parts info_bs
  have oV := own_keep_map (hJ1.own (a, b)) hg1 hJ1.mp
  have kS := ks.grown hg1 (by intro e; injection e with e; exact hJ1.mp.not_blk ks e)
  refine z_append 10 rfl (by kernel_rfl) hM11 (.inl rfl) rfl rfl rfl 0 28 i0 _ 1 24 Try.underlying57 hi hz0 hz1 hz2 rfl (by decide) (st (a, b)).length ((st (a, b)).map (·.1)) rfl oV ⟨gs, 0, none⟩ 1 1 [u] rfl rfl (one_news kS) (one_own ou) (by have := HLN.out; unfold maxLen; omega) (by have := HLN.out; omega) (Nat.zero_le _) (fun V2 a10 w3 hM10 o3 hg3 hat => ⟨trivial, ?_⟩)
  obtain ⟨w4, hr4, hm4, hg4⟩ := hst w3 V2 (hg3.block mb hm1 (fun e => own_not_map (hJ1.own (a, b)) hJ1.mp e.symm))
  refine z_end rfl (by kernel_rfl) rfl rfl (run_entryStore hM10 rfl rfl rfl rfl hr4) (by kernel_rfl) ?_
  have HR := hide (put_end HNJ.out hbW (own_mono ou HB71.out.size) HX.out HLN.out hg1 hg3 hg4 hm1 o3 hat hm4)
  have hM75 := hM10.cut0
  clear hMx hM8 hM9 hM11 hM10 hJ hJ1 h3 h4 h7 e3 e4 e7 ks kS oV o3 ou hr1 hr4 hg1 hg3 hg4 hm4 hst hat hbW hf hM73
  have HB77 : Hid (Below w4.heap.size w4 w4) := Below.refl _ _
  refine region_then fun K78 QK78 hK78 => ?_
  refine s_val hM75 (.inl rfl) rfl rfl (ev_move (.inr rfl) rfl) (fun a80 hM79 => ?_)
  clear hM75
  refine seg_nil (hK78 _ _ ?_)
  clear hK78 K78 QK78
  have hM81 := hM79.cut1 (t1 := 8) rfl
  clear hM79
  refine wp_ret ?_
  repeat (with_reducible first | refine th_r ?_ | refine inb_r ?_ | refine js_r ?_)
  refine ret_of (t := 8) rfl hM81 rfl ?_
  exact ⟨rfl, HR.out⟩
end Go.Proofs.Ytflamhndmggiaaa
