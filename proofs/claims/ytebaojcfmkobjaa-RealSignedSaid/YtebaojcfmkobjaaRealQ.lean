/-
  The walk of RealSigned: whatever the script, the call answers true and changes nothing that was there.
-/
import Derived.Test.YtebaojcfmkobjaaRealP
set_option linter.unusedVariables false
set_option linter.unusedSimpArgs false
namespace Go.Proofs.Ytebaojcfmkobjaa
open Go.RowKit

theorem msC_szp {x : MsD} {u : MsV} : (msC x u).size = 18 := rfl
def bkZ : Array Value := #[.slice none 0 0, .slice none 0 0, .slice none 0 0]
theorem build_book {M : List (Nat × Value)} {o : Oper} {w : World} {Z : Array Value} (ho : o.op = .build 33 #[]) (hZ : Z = bkZ) : Ev Try.prog M o w (.agg Z) := fun a n h => by
  subst hZ
  simp only [execOp, ho]
  simp [go_sem, bkZ]
theorem RfI.of_blk {w : World} {g : Nat} {Z : Array Value} (h : Blk w g 33 Z) (hZ : Z = bkZ) : RfI (fun b => b = g) w g [] [] := by
  subst hZ
  exact ⟨fun b hb => by subst hb; exact h.lt, rfl, by simp, fun b => b = g, fun _ => False, .slice none 0 0, none, none, 0, 0, fun _ => id, fun _ hf => hf.elim, fun _ _ => id, rfl, h, RwF.nil_, World.ownsRow_nil _ _ _ _, World.ownsRow_nil _ _ _ _, (fun b hb => by cases hb), (fun b hb => by cases hb), (fun b hb => by cases hb)⟩
structure SlN (G : Nat → Prop) (w : World) (A : Option Addr) (n : Nat) (cs : List Value) : Prop where
  sl : Sl w 1 A n cs
  ap : 0 < n → ∀ b off, A = some ⟨b, off, none⟩ → ¬ G b
def SlK (G : Nat → Prop) (w : World) (A : Option Addr) (n : Nat) (cs : List Value) : Prop := SlN G w A n cs
theorem SlK.n {G : Nat → Prop} {w : World} {A : Option Addr} {n : Nat} {cs : List Value} (h : SlK G w A n cs) : SlN G w A n cs := h
theorem SlK.below {G : Nat → Prop} {w w' : World} {A : Option Addr} {n : Nat} {cs : List Value} (h : SlK G w A n cs) (hb : Below w.heap.size w w') : SlK G w' A n cs := ⟨h.n.sl.below hb, h.n.ap⟩
theorem SlK.chg {G : Nat → Prop} {w w' : World} {A : Option Addr} {n : Nat} {cs : List Value} (h : SlK G w A n cs) (hc : Chg G w w') : SlK G w' A n cs := ⟨h.n.sl.chg hc h.n.ap, h.n.ap⟩
theorem SlK.one {G : Nat → Prop} {w : World} {g : Nat} {z : Int} (h : Sl w 1 (some ⟨g, 0, none⟩) 1 (ints [z])) (hn : ¬ G g) : SlK G w (some ⟨g, 0, none⟩) 1 (ints [z]) := ⟨h, fun _ b off e => by injection e with e; injection e with e1 _; subst e1; exact hn⟩
def dropA (A : Option Addr) (c k : Nat) : Option Addr := if c = k then A else A.map (·.add (k * 1))
theorem Sl.drop1 {w : World} {A : Option Addr} {n c k : Nat} {W : List Int} (h : Sl w 1 A n (ints W)) (hk : k < n) (hc : n ≤ c) : Sl w 1 (dropA A c k) (n - k) (ints (W.drop k)) := by
  obtain ⟨b, off, e, hb, hcell⟩ := h.2 (by omega)
  have hl := h.ilen
  refine ⟨by simp [ints]; omega, fun _ => ⟨b, off + k, ?_, hb, fun j u hu => ?_⟩⟩
  · unfold dropA
    rw [if_neg (by omega), e]
    simp only [Option.map_some, add_lit, Nat.mul_one]
  · rw [show off + k + j = off + (k + j) by omega]
    refine hcell (k + j) u ?_
    have : (ints (W.drop k))[j]? = (ints W)[k + j]? := by simp [ints]
    rw [← this]; exact hu
theorem ev_slice_l {P : Program} {M : List (Nat × Value)} {o : Oper} {w : World} {t : TypeId} {x lo : Operand} {A : Option Addr} {n c k : Nat} (ho : o.op = .slice t x (some lo) none none) (hx : opv M x = some (.slice A n c)) (hl : opv M lo = some (.int .i64 (k : Int)))
    (hu : P.underlying t = some (.slice (P.elem t))) (hz : ∀ w, (sizeOf (P.elem t)).run P w = .ok 1 w) (hk : k ≤ n) : Ev P M o w (.slice (dropA A c k) (n - k) (c - k)) := fun a m hM => by
  have h1 := run_slice_l (P := P) (w := w) t A n c hu .i64 (k : Int) (by omega) (by omega)
  rw [hz] at h1
  simp only [Result.andThen_ok, Int.toNat_natCast] at h1
  simp only [execOp, ho, hM.evo hx, hM.evo hl, Option.map_some, Option.map_none]
  simp [Sem.run_bind, run_sliceAt_slice, hu, h1, sliced, dropA]
theorem setD_s {w : World} {x : MsD} {u : MsV} {d : Int} (h : MsS w x u) : MsS w (setD x d) u := by unfold setD; split <;> exact ⟨h.tx, h.hb, h.hp, h.cb, h.cp, h.cs, h.ds⟩
theorem setD_z {x : MsD} {u : MsV} {d : Int} (h : MsZ x u) : MsZ (setD x d) u := by unfold setD; split <;> exact ⟨h.txz, h.tx, h.hb, h.hp, h.cb, h.cp, h.cs, h.ds⟩
theorem Sl.of_blk_ {w : World} {g : Nat} {t : TypeId} {C : Array Value} (h : Blk w g t C) : Sl w 1 (some ⟨g, 0, none⟩) C.size C.toList := ⟨by simp, fun _ => ⟨g, 0, rfl, h.lt, fun j u hu => by rw [Nat.zero_add]; exact h.at_ (by simpa using hu)⟩⟩
theorem wp_seq_join {P : Program} {x y : Code} {Q : Exit → Act → World → Prop} {a : Act} {w : World} (J : Act → World → Prop) (h1 : x.wp P (Exit.then J Q) a w) (h2 : ∀ a w, J a w → y.wp P Q a w) : (x.seq y).wp P Q a w :=
  wp_seq (wp_mono h1 fun e a' w' h => by
    cases e with
    | normal => exact h2 _ _ h
    | _ => exact h)
theorem wp_rest_join {P : Program} {x r a1 y : Code} {Q : Exit → Act → World → Prop} {a : Act} {w : World} (J : Act → World → Prop) (h2 : ∀ a w, J a w → y.wp P Q a w) (h1 : (∀ a w, J a w → y.wp P Q a w) → (x.seq (r.seq (a1.seq y))).wp P Q a w) : (x.seq (r.seq (a1.seq y))).wp P Q a w := h1 h2
theorem th_n {J : Act → World → Prop} {Q : Exit → Act → World → Prop} {a : Act} {w : World} (h : J a w) : Exit.then J Q .normal a w := h

set_option maxRecDepth 100000 in
set_option maxHeartbeats 4000000 in
theorem real_signed (N : Int) (s : ScV) (ls : List Int) (xs : List (MsD × MsV)) (pb : List Bool) (who wch : List Int) (w : World) (HS : Hid (Scr w s ls xs pb who wch)) (HZ : Hid (ScZ s who wch)) {C : Array Value} (HC : Hid (C = scC N s)) :
    Calls Try.prog 4 #[.agg C] w fun e w' => e = .returned (.bool true) ∧ Below w.heap.size w w' := by
  obtain ⟨ZB, HZB⟩ : ∃ Z : Array Value, Hid (Z = bkZ) := ⟨_, rfl⟩
  go_enter Try.func4, Try.ntmps4
  refine act_off 168 [(0, .agg C)] (Frm.start rfl (by intro p hp; simp only [List.mem_cons, List.not_mem_nil, or_false] at hp; subst hp; rfl)) (fun a0 hM => ?_)
  have HB2 : Hid (Below w.heap.size w w) := Below.refl _ _
  refine region_then fun K3 QK3 hK3 => ?_
  refine s_alloc (e := 26) hM (.inl rfl) rfl rfl (V := fun g => .pointer (some ⟨g, 0, none⟩)) (ev_box hM rfl rfl) (fun g4 a10 w5 hM9 KB8_ hb6 hg7 => ?_)
  have KB8 := hide KB8_
  clear hM KB8_
  clear hg7
  have HB11 := hide (below_then HB2.out hb6)
  clear hb6 HB2
  have HB13 : Hid (Below w5.heap.size w5 w5) := Below.refl _ _
  refine s_val hM9 (.inl rfl) rfl rfl (ev_move (.inr rfl) rfl) (fun a15 hM14 => ?_)
  clear hM9
  refine seg_nil (hK3 _ _ ?_)
  clear hK3 K3 QK3
  have hM16 := hM14.cut1 (t1 := 1) rfl
  clear hM14
  refine wp_seq_k fun K17 hK17 => ?_
  refine region_then fun K18 QK18 hK18 => ?_
  refine s_val hM16 (.inl rfl) rfl rfl (ev_loadm rfl rfl (KB8.out.on HB13.out).rng Try.underlying26 rfl (by rw [HC.out]; exact info_scr)) (fun a20 hM19 => ?_)
  clear hM16
  refine s_call hM19 (.inl rfl) rfl rfl (f := 15) (args := #[.agg C]) (ev_call hM19 rfl rfl rfl (fun w => by simp [go_sem]) _) (law8_heavy N s ls xs pb who wch _ (hide (HS.out.below HB11.out)) HZ HC) (fun e w21 hp => ?_)
  obtain ⟨⟨qh, rfl, hq⟩, hb22⟩ := hp
  refine ⟨_, rfl, fun a24 hM23 => ?_⟩
  clear hM19
  have HB25 := hide (below_then HB11.out hb22)
  have HB26 := hide (below_then HB13.out hb22)
  clear hb22 HB11 HB13
  refine seg_nil (hK18 _ _ ?_)
  clear hK18 K18 QK18
  have hM27 := hM23.cut2 (t1 := 1) (t2 := 14) rfl rfl
  clear hM23
  cases qh
  case true =>
    refine wp_cond_true (hM27.ev (t := 14) rfl) ?_
    refine region_then fun K28 QK28 hK28 => ?_
    refine s_val hM27 (.inl rfl) rfl rfl (ev_move (.inr rfl) rfl) (fun a30 hM29 => ?_)
    clear hM27
    refine seg_nil (hK28 _ _ ?_)
    clear hK28 K28 QK28
    have hM31 := hM29.cut1 (t1 := 2) rfl
    clear hM29
    refine wp_ret ?_
    repeat (with_reducible first | refine th_r ?_ | refine inb_r ?_ | refine js_r ?_ | refine jq_r ?_)
    refine ret_of (t := 2) rfl hM31 rfl ?_
    exact ⟨rfl, HB25.out⟩
  case false =>
    have HLT := hide (hq rfl)
    clear hq
    have HB00 := HB25
    have HS_ := hide (HS.out.below HB25.out)
    have KB32 := hide (KB8.out.on HB26.out)
    clear HS KB8 HB25 HB26
    have HS := HS_
    clear HS_
    have HB34 : Hid (Below w21.heap.size w21 w21) := Below.refl _ _
    refine wp_cond_false (hM27.ev (t := 14) rfl) ?_
    refine wp_skip ?_
    refine hK17 _ _ ?_
    refine wp_seq_k fun K35 hK35 => ?_
    refine region_then fun K36 QK36 hK36 => ?_
    refine s_val hM27 (.inl rfl) rfl rfl (ev_move (.inr rfl) rfl) (fun a38 hM37 => ?_)
    clear hM27
    refine seg_nil (hK36 _ _ ?_)
    clear hK36 K36 QK36
    have hM39 := hM37.cut2 (t1 := 1) (t2 := 3) rfl rfl
    clear hM37
    have hM40 := hM39.cut2 (t1 := 3) (t2 := 1) rfl rfl
    clear hM39
    refine wp_join (fun a w' => ∃ (j : Nat), Frm a 168 [(1, .pointer (some ⟨g4, 0, none⟩))] ∧ Hid (Below w21.heap.size w21 w')) ?_ ?_
    ·
      refine wp_block ?_
      refine wp_loop_ghost (fun m a w' => ∃ (j : Nat), m = s.l.n - j ∧ Frm a 168 [(3, .int .i64 (j : Int)), (1, .pointer (some ⟨g4, 0, none⟩))] ∧ Hid (Below w21.heap.size w21 w')) s.l.n ⟨0,  by omega, hM40, HB34⟩ ?_
      clear HB34 hM40
      rintro m45 a42 w41 ⟨j, rfl, hM43, HB44⟩
      refine wp_seq_k fun K46 hK46 => ?_
      by_cases hlt : j < s.l.n
      case neg =>
        refine region_then fun K47 QK47 hK47 => ?_
        refine s_val hM43 (.inl rfl) rfl rfl (ev_move (.inl rfl) rfl) (fun a49 hM48 => ?_)
        clear hM43
        refine s_val hM48 (.inl rfl) rfl rfl (ev_fldw (m := 2) rfl rfl (fun w => by simp [go_sem])) (fun a51 hM50 => ?_)
        clear hM48
        refine s_val hM50 (.inl rfl) rfl rfl (ev_load1 (v := .slice (s.l.A) (s.l.n) (s.l.c)) rfl rfl ((KB32.out.on HB44.out).rng.at_ (m := 2) (by rw [HC.out]; rfl)) (isAgg_no Try.underlying23 rfl)) (fun a53 hM52 => ?_)
        clear hM50
        refine s_val hM52 (.inl rfl) rfl rfl (ev_len rfl rfl Try.underlying23) (fun a55 hM54 => ?_)
        clear hM52
        refine s_val hM54 (.inl rfl) rfl rfl (ev_bin rfl rfl rfl g_int (b_lss (b := false) (by rw [decide_eq_false_iff_not]; omega))) (fun a57 hM56 => ?_)
        clear hM54
        refine s_val hM56 (.inl rfl) rfl rfl (ev_move (.inl rfl) rfl) (fun a59 hM58 => ?_)
        clear hM56
        refine s_skip hM58 rfl rfl rfl rfl rfl rfl (fun a61 hM60 => ?_)
        clear hM58
        refine s_skip hM60 rfl rfl rfl rfl rfl rfl (fun a63 hM62 => ?_)
        clear hM60
        refine s_val hM62 (.inl rfl) rfl rfl (ev_pick rfl rfl rfl) (fun a65 hM64 => ?_)
        clear hM62
        refine seg_nil (hK47 _ _ ?_)
        clear hK47 K47 QK47
        have hM66 := hM64.cut3 (t1 := 1) (t2 := 3) (t3 := 23) rfl rfl rfl
        clear hM64
        refine wp_cond_false (hM66.ev (t := 23) rfl) ?_
        refine wp_exit ?_
        repeat (with_reducible refine th_e ?_)
        refine inb_e ?_
        have hM67 := hM66.cut1 (t1 := 1) rfl
        clear hM66
        exact jq_n ⟨j, hM67, HB44⟩
      case pos =>
        by_cases hlt2 : j < 12
        case neg =>
          refine region_then fun K68 QK68 hK68 => ?_
          refine s_val hM43 (.inl rfl) rfl rfl (ev_move (.inl rfl) rfl) (fun a70 hM69 => ?_)
          clear hM43
          refine s_val hM69 (.inl rfl) rfl rfl (ev_fldw (m := 2) rfl rfl (fun w => by simp [go_sem])) (fun a72 hM71 => ?_)
          clear hM69
          refine s_val hM71 (.inl rfl) rfl rfl (ev_load1 (v := .slice (s.l.A) (s.l.n) (s.l.c)) rfl rfl ((KB32.out.on HB44.out).rng.at_ (m := 2) (by rw [HC.out]; rfl)) (isAgg_no Try.underlying23 rfl)) (fun a74 hM73 => ?_)
          clear hM71
          refine s_val hM73 (.inl rfl) rfl rfl (ev_len rfl rfl Try.underlying23) (fun a76 hM75 => ?_)
          clear hM73
          refine s_val hM75 (.inl rfl) rfl rfl (ev_bin rfl rfl rfl g_int (b_lss (b := true) (by rw [decide_eq_true_eq]; omega))) (fun a78 hM77 => ?_)
          clear hM75
          refine s_val hM77 (.inl rfl) rfl rfl (ev_move (.inl rfl) rfl) (fun a80 hM79 => ?_)
          clear hM77
          refine s_val hM79 (.inr ⟨_, _, _, rfl, rfl, rfl⟩) rfl rfl (ev_move (.inl rfl) rfl) (fun a82 hM81 => ?_)
          clear hM79
          refine s_val hM81 (.inr ⟨_, _, _, rfl, rfl, rfl⟩) rfl rfl (ev_bin rfl rfl rfl g_int (b_lss (b := false) (by rw [decide_eq_false_iff_not]; omega))) (fun a84 hM83 => ?_)
          clear hM81
          refine s_val hM83 (.inl rfl) rfl rfl (ev_pick rfl rfl rfl) (fun a86 hM85 => ?_)
          clear hM83
          refine seg_nil (hK68 _ _ ?_)
          clear hK68 K68 QK68
          have hM87 := hM85.cut3 (t1 := 1) (t2 := 3) (t3 := 23) rfl rfl rfl
          clear hM85
          refine wp_cond_false (hM87.ev (t := 23) rfl) ?_
          refine wp_exit ?_
          repeat (with_reducible refine th_e ?_)
          refine inb_e ?_
          have hM88 := hM87.cut1 (t1 := 1) rfl
          clear hM87
          exact jq_n ⟨j, hM88, HB44⟩
        case pos =>
          refine region_then fun K89 QK89 hK89 => ?_
          refine s_val hM43 (.inl rfl) rfl rfl (ev_move (.inl rfl) rfl) (fun a91 hM90 => ?_)
          clear hM43
          refine s_val hM90 (.inl rfl) rfl rfl (ev_fldw (m := 2) rfl rfl (fun w => by simp [go_sem])) (fun a93 hM92 => ?_)
          clear hM90
          refine s_val hM92 (.inl rfl) rfl rfl (ev_load1 (v := .slice (s.l.A) (s.l.n) (s.l.c)) rfl rfl ((KB32.out.on HB44.out).rng.at_ (m := 2) (by rw [HC.out]; rfl)) (isAgg_no Try.underlying23 rfl)) (fun a95 hM94 => ?_)
          clear hM92
          refine s_val hM94 (.inl rfl) rfl rfl (ev_len rfl rfl Try.underlying23) (fun a97 hM96 => ?_)
          clear hM94
          refine s_val hM96 (.inl rfl) rfl rfl (ev_bin rfl rfl rfl g_int (b_lss (b := true) (by rw [decide_eq_true_eq]; omega))) (fun a99 hM98 => ?_)
          clear hM96
          refine s_val hM98 (.inl rfl) rfl rfl (ev_move (.inl rfl) rfl) (fun a101 hM100 => ?_)
          clear hM98
          refine s_val hM100 (.inr ⟨_, _, _, rfl, rfl, rfl⟩) rfl rfl (ev_move (.inl rfl) rfl) (fun a103 hM102 => ?_)
          clear hM100
          refine s_val hM102 (.inr ⟨_, _, _, rfl, rfl, rfl⟩) rfl rfl (ev_bin rfl rfl rfl g_int (b_lss (b := true) (by rw [decide_eq_true_eq]; omega))) (fun a105 hM104 => ?_)
          clear hM102
          refine s_val hM104 (.inl rfl) rfl rfl (ev_pick rfl rfl rfl) (fun a107 hM106 => ?_)
          clear hM104
          refine seg_nil (hK89 _ _ ?_)
          clear hK89 K89 QK89
          have hM108 := hM106.cut3 (t1 := 1) (t2 := 3) (t3 := 23) rfl rfl rfl
          clear hM106
          refine wp_cond_true (hM108.ev (t := 23) rfl) ?_
          refine wp_skip ?_
          refine hK46 _ _ ?_
          refine wp_seq_k fun K109 hK109 => ?_
          refine wp_block ?_
          refine region_then fun K110 QK110 hK110 => ?_
          have HNW := HB44
          have HB112 : Hid (Below w41.heap.size w41 w41) := Below.refl _ _
          refine s_call hM108 (.inl rfl) rfl rfl (f := 16) (args := #[]) (ev_call hM108 rfl rfl rfl (fun w => by simp [go_sem]) _) (book_New _) (fun e w113 hp => ?_)
          obtain ⟨g, G1, rfl, hB, hlo, hb114⟩ := hp
          have HBW := hide (show BkK w41 G1 w113 g [] (fun _ => false) from ⟨hB, hlo, hb114⟩)
          clear hB hlo
          refine ⟨_, rfl, fun a116 hM115 => ?_⟩
          clear hM108
          have HB117 := hide (below_then HB44.out hb114)
          have HB118 := hide (below_then HB112.out hb114)
          clear hb114 HB44 HB112
          have HB120 : Hid (Below w113.heap.size w113 w113) := Below.refl _ _
          refine s_val hM115 (.inl rfl) rfl rfl (ev_move (.inr rfl) rfl) (fun a122 hM121 => ?_)
          clear hM115
          refine seg_nil (hK110 _ _ ?_)
          clear hK110 K110 QK110
          have hM123 := hM121.cut3 (t1 := 1) (t2 := 3) (t3 := 4) rfl rfl rfl
          clear hM121
          refine wp_seq_k fun K124 hK124 => ?_
          refine region_then fun K125 QK125 hK125 => ?_
          refine s_val hM123 (.inl rfl) rfl rfl (ev_move (.inl rfl) rfl) (fun a127 hM126 => ?_)
          clear hM123
          refine s_val hM126 (.inl rfl) rfl rfl (ev_ptrnil rfl rfl (u_ptr (by kernel_rfl)) g_ptr) (fun a129 hM128 => ?_)
          clear hM126
          refine seg_nil (hK125 _ _ ?_)
          clear hK125 K125 QK125
          have hM130 := hM128.cut4 (t1 := 1) (t2 := 3) (t3 := 4) (t4 := 28) rfl rfl rfl rfl
          clear hM128
          refine wp_cond_false (hM130.ev (t := 28) rfl) ?_
          refine wp_skip ?_
          refine hK124 _ _ ?_
          obtain ⟨x, v, hxv_⟩ : ∃ x v, xs[j]? = some (x, v) := ⟨_, _, List.getElem?_eq_getElem (by rw [HS.out.l.1]; omega)⟩
          have hxv := hide hxv_
          clear hxv_
          have HMA := hide (HS.out.l.2 j (x, v) hxv.out)
          obtain ⟨bb, off, hA, hbl, hc⟩ := HMA.out.at_
          obtain ⟨MC, HMC⟩ : ∃ C : Array Value, Hid (C = msC x v) := ⟨_, rfl⟩
          have HRMC : Hid (Rng w21 bb (off + j * 18) MC) := ⟨hbl, by rw [HMC.out]; exact hc⟩
          have HMS := hide HMA.out.s
          have HMK := hide (MsL.light (HLT.out.l j x v hlt2 hxv.out))
          have HMZ := hide (MsL.z HMA.out.l)
          clear hc hbl HMA
          refine region_then fun K131 QK131 hK131 => ?_
          refine s_val hM130 (.inl rfl) rfl rfl (ev_move (.inl rfl) rfl) (fun a133 hM132 => ?_)
          clear hM130
          refine s_val hM132 (.inl rfl) rfl rfl (build_book rfl HZB.out) (fun a135 hM134 => ?_)
          clear hM132
          refine s_alloc (e := 33) hM134 (.inl rfl) rfl rfl (V := fun g => .pointer (some ⟨g, 0, none⟩)) (ev_box hM134 rfl rfl) (fun g136 a142 w137 hM141 KB140_ hb138 hg139 => ?_)
          have KB140 := hide KB140_
          clear hM134 KB140_
          have lo143 := hide (Nat.le_trans HB117.out.size hg139)
          have lo144 := hide (Nat.le_trans HB118.out.size hg139)
          have lo145 := hide (Nat.le_trans HB120.out.size hg139)
          clear hg139
          have HB146 := hide (below_then HB117.out hb138)
          have HB147 := hide (below_then HB118.out hb138)
          have HB148 := hide (below_then HB120.out hb138)
          clear hb138 HB117 HB118 HB120
          have HB150 : Hid (Below w137.heap.size w137 w137) := Below.refl _ _
          have HT := hide (show TwK w41 G1 (fun b => b = g136) w137 g g136 [] (fun _ => false) [] [] from ⟨((HBW.out.below HB148.out)).bw.bk, RfI.of_blk KB140.out HZB.out, fun b h e => by have e : b = g136 := e; have h1 := HBW.out.bw.bk.lt b h; have h2 := lo145.out; omega, HBW.out.bw.lo, fun b e => by have e : b = g136 := e; rw [e]; exact lo144.out, ((HBW.out.below HB148.out)).bw.below⟩)
          clear HBW
          refine s_val hM141 (.inl rfl) rfl rfl (ev_fldw (m := 2) rfl rfl (fun w => by simp [go_sem])) (fun a152 hM151 => ?_)
          clear hM141
          refine s_val hM151 (.inl rfl) rfl rfl (ev_load1 (v := .slice (s.l.A) (s.l.n) (s.l.c)) rfl rfl ((KB32.out.on HB146.out).rng.at_ (m := 2) (by rw [HC.out]; rfl)) (isAgg_no Try.underlying23 rfl)) (fun a154 hM153 => ?_)
          clear hM151
          refine s_val hM153 (.inl rfl) rfl rfl (ev_move (.inl rfl) rfl) (fun a156 hM155 => ?_)
          clear hM153
          refine s_val hM155 (.inl rfl) rfl rfl (ev_idx (b := bb) (k := j) (sz := 18) (p := off + j * 18) rfl (by rw [← hA]; rfl) rfl Try.underlying23 (by kernel_rfl) hlt (by omega)) (fun a158 hM157 => ?_)
          clear hM155
          refine s_val hM157 (.inl rfl) rfl rfl (ev_loadm rfl rfl (HRMC.out.below HB146.out) Try.underlying42 rfl (by rw [HMC.out]; exact Try.infoMsg)) (fun a160 hM159 => ?_)
          clear hM157
          refine s_call hM159 (.inl rfl) rfl rfl (f := 18) (args := #[.pointer (some ⟨g, 0, none⟩), .pointer (some ⟨g136, 0, none⟩), .agg MC]) (ev_call hM159 rfl rfl rfl (fun w => by simp [go_sem]) _) (law8_put x v _ (hide (HT.out.below HB150.out)) (by show 0 ≤ 65535; omega) (hide (HMS.out.below HB146.out)) HMK HMZ HMC) (fun e w161 hp => ?_)
          obtain ⟨D2, u2, G1b, G2b, rfl, HD2, hI, hT, hG, hC, HUC⟩ := hp
          have HBK_ := hide (show BkK w41 G1b w161 g (putLs [] x) (fun _ => false) from ⟨hT.out.tw.bk, hT.out.tw.lo1, hT.out.tw.below⟩)
          have HI_ := hide (hI.out.to (F' := G1b) (fun b h => .inl (Or.inl (Or.inl h))))
          have HB165 := hide (below_then HNW.out HBK_.out.bw.below)
          clear hT hI hG hC HT HB146 HB147 HB148 HB150
          have HBK := HBK_
          have HI := HI_
          clear HBK_ HI_
          have HB167 : Hid (Below w161.heap.size w161 w161) := Below.refl _ _
          refine ⟨_, rfl, fun a164 hM163 => ?_⟩
          clear hM159
          refine s_val hM163 (.inl rfl) rfl rfl (ev_move (.inl rfl) rfl) (fun a169 hM168 => ?_)
          clear hM163
          refine s_val hM168 (.inl rfl) rfl rfl (ev_ext (v := .agg D2) rfl rfl rfl) (fun a171 hM170 => ?_)
          clear hM168
          refine s_val hM170 (.inl rfl) rfl rfl (ev_ext (v := .bool true) rfl rfl rfl) (fun a173 hM172 => ?_)
          clear hM170
          refine s_new hM172 rfl rfl rfl rfl alloc_msg rfl rfl rfl rfl (by rw [HD2.out]; exact Try.infoMsg) (by rw [HD2.out]; rfl) (one_msg HD2.out) (fun g174 a180 w175 hM179 KB178_ hb176 hg177 => ?_)
          have KB178 := hide KB178_
          clear hM172 KB178_
          have lo181 := hide (Nat.le_trans HB165.out.size hg177)
          have lo182 := hide (Nat.le_trans HB167.out.size hg177)
          clear hg177
          have HB183 := hide (below_then HB165.out hb176)
          have HB184 := hide (below_then HB167.out hb176)
          clear hb176 HB165 HB167
          have HB186 : Hid (Below w175.heap.size w175 w175) := Below.refl _ _
          have HN5 : Hid (¬ G1b g174) := fun h => by have h1 := HBK.out.bw.bk.lt _ h; have h2 := lo182.out; omega
          refine s_val hM179 (.inl rfl) rfl rfl (ev_move (.inr rfl) rfl) (fun a188 hM187 => ?_)
          clear hM179
          refine seg_nil (hK131 _ _ ?_)
          clear hK131 K131 QK131
          have hM189 := hM187.cut5 (t1 := 1) (t2 := 3) (t3 := 4) (t4 := 5) (t5 := 6) rfl rfl rfl rfl rfl
          clear hM187
          refine wp_seq_k fun K190 hK190 => ?_
          refine region_then fun K191 QK191 hK191 => ?_
          refine s_val hM189 (.inl rfl) rfl rfl (ev_move (.inl rfl) rfl) (fun a193 hM192 => ?_)
          clear hM189
          refine s_val hM192 (.inl rfl) rfl rfl (ev_not rfl rfl rfl) (fun a195 hM194 => ?_)
          clear hM192
          refine seg_nil (hK191 _ _ ?_)
          clear hK191 K191 QK191
          have hM196 := hM194.cut5 (t1 := 1) (t2 := 3) (t3 := 4) (t4 := 5) (t5 := 42) rfl rfl rfl rfl rfl
          clear hM194
          refine wp_cond_false (hM196.ev (t := 42) rfl) ?_
          refine wp_skip ?_
          refine hK190 _ _ ?_
          refine wp_rest_join (fun a w' => ∃ (bs : List UInt8) (W : List Int) (AW : Option Addr) (nW cW : Nat), Frm a 168 [(1, .pointer (some ⟨g4, 0, none⟩)), (3, .int .i64 ((j : Int))), (4, .pointer (some ⟨g, 0, none⟩)), (5, .pointer (some ⟨g174, 0, none⟩)), (7, .int .i64 1), (8, .slice AW nW cW)] ∧ Hid (Below w21.heap.size w21 w') ∧ Hid (BkK w41 G1b w' g [bs] (sgW W 0)) ∧ Hid (MsIn G1b w' (putM [] x) u2) ∧ Hid (Blk w' g174 42 D2) ∧ Hid (SlK G1b w' AW nW (ints W)) ∧ Hid (SgF x (putM [] x) bs W) ∧ Hid (nW ≤ 1000000000000 ∧ nW ≤ cW)) ?_ ?_
          ·
            clear HUC hM196 HB183 HB184 HB186 KB178
            clear HBK
            clear HI
            rintro a199 w197 ⟨bs, W, AW, nW, cW, hM198, HB200, HBK, HI, KB5, HW, HSG, HNC⟩
            have HB202 : Hid (Below w197.heap.size w197 w197) := Below.refl _ _
            refine wp_seq_k fun K203 hK203 => ?_
            refine region_then fun K204 QK204 hK204 => ?_
            refine s_val hM198 (.inl rfl) rfl rfl (ev_move (.inr rfl) rfl) (fun a206 hM205 => ?_)
            clear hM198
            refine seg_nil (hK204 _ _ ?_)
            clear hK204 K204 QK204
            have hM207 := hM205.cut7 (t1 := 1) (t2 := 3) (t3 := 4) (t4 := 5) (t5 := 7) (t6 := 8) (t7 := 9) rfl rfl rfl rfl rfl rfl rfl
            clear hM205
            have hM208 := hM207.cut7 (t1 := 9) (t2 := 1) (t3 := 3) (t4 := 4) (t5 := 5) (t6 := 7) (t7 := 8) rfl rfl rfl rfl rfl rfl rfl
            clear hM207
            refine wp_block ?_
            refine wp_loop_ghost (fun m a w' => ∃ (kk : Nat), m = nW - kk ∧ Frm a 168 [(9, .int .i64 (kk : Int)), (1, .pointer (some ⟨g4, 0, none⟩)), (3, .int .i64 ((j : Int))), (4, .pointer (some ⟨g, 0, none⟩)), (5, .pointer (some ⟨g174, 0, none⟩)), (7, .int .i64 1), (8, .slice AW nW cW)] ∧ Hid (Below w21.heap.size w21 w') ∧ Hid (BkK w41 G1b w' g [bs] (sgW W kk)) ∧ Hid (MsIn G1b w' (putM [] x) u2) ∧ Hid (Blk w' g174 42 D2) ∧ Hid (SlK G1b w' AW nW (ints W))) nW ⟨0,  by omega, hM208, HB200, (hide (HBK.out.below HB202.out)), (hide (HI.out.below HB202.out)), (hide (KB5.out.on HB202.out)), (hide (HW.out.below HB202.out))⟩ ?_
            clear HB200 HB202 hM208 HBK HI KB5 HW
            rintro m213 a210 w209 ⟨kk, rfl, hM211, HB212, HBK, HI, KB5, HW⟩
            have HB215 : Hid (Below w209.heap.size w209 w209) := Below.refl _ _
            refine wp_seq_k fun K216 hK216 => ?_
            have HLW := hide ((HW.out.below HB215.out)).n.sl.ilen
            by_cases hlw : kk < nW
            case neg =>
              refine region_then fun K217 QK217 hK217 => ?_
              refine s_val hM211 (.inl rfl) rfl rfl (ev_move (.inl rfl) rfl) (fun a219 hM218 => ?_)
              clear hM211
              refine s_val hM218 (.inl rfl) rfl rfl (ev_move (.inl rfl) rfl) (fun a221 hM220 => ?_)
              clear hM218
              refine s_val hM220 (.inl rfl) rfl rfl (ev_len rfl rfl Try.underlying22) (fun a223 hM222 => ?_)
              clear hM220
              refine s_val hM222 (.inl rfl) rfl rfl (ev_bin rfl rfl rfl g_int (b_lss (b := false) (by rw [decide_eq_false_iff_not]; omega))) (fun a225 hM224 => ?_)
              clear hM222
              refine seg_nil (hK217 _ _ ?_)
              clear hK217 K217 QK217
              have hM226 := hM224.cut8 (t1 := 1) (t2 := 3) (t3 := 4) (t4 := 5) (t5 := 7) (t6 := 8) (t7 := 9) (t8 := 90) rfl rfl rfl rfl rfl rfl rfl rfl
              clear hM224
              refine wp_cond_false (hM226.ev (t := 90) rfl) ?_
              refine wp_exit ?_
              repeat (with_reducible refine th_e ?_)
              refine inb_e ?_
              refine hK203 _ _ ?_
              refine region_then fun K227 QK227 hK227 => ?_
              refine s_val hM226 (.inl rfl) rfl rfl (ev_move (.inl rfl) rfl) (fun a229 hM228 => ?_)
              clear hM226
              refine s_cbytes (k := 11) (C := #[.int .u8 97, .int .u8 110, .int .u8 111, .int .u8 116, .int .u8 104, .int .u8 101, .int .u8 114, .int .u8 32, .int .u8 111, .int .u8 110, .int .u8 101]) hM228 rfl rfl rfl rfl rfl (fun w => by kernel_rfl) rfl rfl rfl rfl Try.underlying60 Try.underlying5 rfl (fun g230 a235 w231 hM234 HCB236_ hb232 hg233 => ?_)
              have HCB236 := hide HCB236_
              clear HCB236_ hM228
              have lo237 := hide (Nat.le_trans HB212.out.size hg233)
              have lo238 := hide (Nat.le_trans HB215.out.size hg233)
              clear hg233
              have HB239 := hide (below_then HB212.out hb232)
              have HB240 := hide (below_then HB215.out hb232)
              clear hb232 HB212 HB215
              have HB242 : Hid (Below w231.heap.size w231 w231) := Below.refl _ _
              refine s_call hM234 (.inl rfl) rfl rfl (f := 30) (args := #[.pointer (some ⟨g, 0, none⟩), .slice ((some ⟨g230, 0, none⟩)) 11 11]) (ev_call hM234 rfl rfl rfl (fun w => by simp [go_sem]) _) (book_Digest (x := anoB) (n := 11) _ ((HBK.out.below HB240.out)).bw.bk (show Sl _ 1 _ 11 (bytes8 anoB) from (HCB236.out.below HB242.out)) (by show 11 ≤ 1048576; omega) (by show 1 ≤ 65535; omega) (hide (fun _ b off e h => by injection e with e; injection e with e1 _; have h1 := HBK.out.bw.bk.lt b h; have h2 := lo238.out; omega)) (d := 2) HSG.out.dig.1 (L' := [bs, anoB]) HSG.out.dig.2) (fun e w243 hp => ?_)
              obtain ⟨rfl, hn⟩ := hp
              obtain ⟨G2, hB2, hG⟩ := ((HBK.out.below HB240.out)).bw.next hn
              have HN6 : Hid (¬ G2 g174) := fun h => (hG _ h).elim HN5.out (fun h => by have h1 := ((KB5.out.on HB240.out)).lt; omega)
              have HBK_ := hide (show BkK w41 G2 w243 g [bs, anoB] (sgW W kk) from hB2)
              have HI_ := hide (((HI.out.below HB240.out)).step hn.chg hG)
              have KB247 := hide (((KB5.out.on HB240.out)).chg hn.chg HN5.out)
              have HB248 := hide (below_then HNW.out HBK_.out.bw.below)
              clear HB239 HB240 HB242 KB5 HBK HI hn hB2 hG HW HCB236
              have HBK := HBK_
              clear HBK_
              have HI := HI_
              clear HI_
              have HB250 : Hid (Below w243.heap.size w243 w243) := Below.refl _ _
              refine ⟨_, rfl, fun a246 hM245 => ?_⟩
              clear hM234
              refine s_val hM245 (.inl rfl) rfl rfl (ev_move (.inl rfl) rfl) (fun a252 hM251 => ?_)
              clear hM245
              refine s_val hM251 (.inl rfl) rfl rfl (ev_ext (v := .int .i64 2) rfl rfl rfl) (fun a254 hM253 => ?_)
              clear hM251
              refine s_val hM253 (.inl rfl) rfl rfl (ev_ext (v := .int .i64 0) rfl rfl rfl) (fun a256 hM255 => ?_)
              clear hM253
              refine s_val hM255 (.inl rfl) rfl rfl (ev_move (.inr rfl) rfl) (fun a258 hM257 => ?_)
              clear hM255
              refine s_val hM257 (.inl rfl) rfl rfl (ev_move (.inr rfl) rfl) (fun a260 hM259 => ?_)
              clear hM257
              refine seg_nil (hK227 _ _ ?_)
              clear hK227 K227 QK227
              have hM261 := hM259.cut6 (t1 := 1) (t2 := 3) (t3 := 4) (t4 := 5) (t5 := 10) (t6 := 11) rfl rfl rfl rfl rfl rfl
              clear hM259
              refine region_then fun K262 QK262 hK262 => ?_
              refine s_val hM261 (.inl rfl) rfl rfl (ev_loadm rfl rfl (KB247.out.on HB250.out).rng Try.underlying42 rfl (by rw [HD2.out]; exact Try.infoMsg)) (fun a264 hM263 => ?_)
              clear hM261
              refine s_call hM263 (.inl rfl) rfl rfl (f := 17) (args := #[.agg D2]) (ev_call hM263 rfl rfl rfl (fun w => by simp [go_sem]) _) (copy_msg (hide ((HI.out.below HB250.out)).s) (hide ((HI.out.below HB250.out)).k) (hide ((HI.out.below HB250.out)).z) HD2) (fun e w265 hp => ?_)
              obtain ⟨D3, u3, rfl, HD3, HS3, HZK3, hb266⟩ := hp
              have HZ3 := hide HZK3.out.1
              clear HZK3
              refine ⟨_, rfl, fun a268 hM267 => ?_⟩
              clear hM263
              have HB269 := hide (below_then HB248.out hb266)
              have HB270 := hide (below_then HB250.out hb266)
              clear hb266 HB248 HB250
              have HB272 : Hid (Below w265.heap.size w265 w265) := Below.refl _ _
              refine s_new hM267 rfl rfl rfl rfl alloc_msg rfl rfl rfl rfl (by rw [HD3.out]; exact Try.infoMsg) (by rw [HD3.out]; rfl) (one_msg HD3.out) (fun g273 a279 w274 hM278 KB277_ hb275 hg276 => ?_)
              have KB277 := hide KB277_
              clear hM267 KB277_
              have lo280 := hide (Nat.le_trans HB269.out.size hg276)
              have lo281 := hide (Nat.le_trans HB270.out.size hg276)
              have lo282 := hide (Nat.le_trans HB272.out.size hg276)
              clear hg276
              have HB283 := hide (below_then HB269.out hb275)
              have HB284 := hide (below_then HB270.out hb275)
              have HB285 := hide (below_then HB272.out hb275)
              clear hb275 HB269 HB270 HB272
              have HB287 : Hid (Below w274.heap.size w274 w274) := Below.refl _ _
              refine seg_nil (hK262 _ _ ?_)
              clear hK262 K262 QK262
              have hM288 := hM278.cut7 (t1 := 1) (t2 := 3) (t3 := 4) (t4 := 5) (t5 := 10) (t6 := 11) (t7 := 12) rfl rfl rfl rfl rfl rfl rfl
              clear hM278
              refine wp_seq_k fun K289 hK289 => ?_
              obtain ⟨D4, HD4⟩ : ∃ D : Array Value, Hid (D = msC (setD (putM [] x) 2) u3) := ⟨_, rfl⟩
              by_cases h6 : (putM [] x).k = 6
              case pos =>
                refine region_then fun K290 QK290 hK290 => ?_
                refine s_val hM288 (.inl rfl) rfl rfl (ev_fldw (m := 0) rfl rfl (fun w => by simp [go_sem])) (fun a292 hM291 => ?_)
                clear hM288
                refine s_val hM291 (.inl rfl) rfl rfl (ev_load1 (v := .int .i64 ((putM [] x).k)) rfl rfl ((KB247.out.on HB284.out).rng.at_ (m := 0) (by rw [HD2.out]; rfl)) (isAgg_no Try.underlying3 rfl)) (fun a294 hM293 => ?_)
                clear hM291
                refine s_val hM293 (.inl rfl) rfl rfl (ev_bin rfl rfl rfl g_int (b_eql (b := true) (decide_eq_true h6))) (fun a296 hM295 => ?_)
                clear hM293
                refine seg_nil (hK290 _ _ ?_)
                clear hK290 K290 QK290
                have hM297 := hM295.cut8 (t1 := 1) (t2 := 3) (t3 := 4) (t4 := 5) (t5 := 10) (t6 := 11) (t7 := 12) (t8 := 143) rfl rfl rfl rfl rfl rfl rfl rfl
                clear hM295
                refine wp_cond_true (hM297.ev (t := 143) rfl) ?_
                refine region_last fun K298 QK298 hK298 => ?_
                refine s_val hM297 (.inl rfl) rfl rfl (ev_move (.inl rfl) rfl) (fun a300 hM299 => ?_)
                clear hM297
                refine s_val hM299 (.inl rfl) rfl rfl (ev_fldw (m := 11) rfl rfl (fun w => by simp [go_sem])) (fun a302 hM301 => ?_)
                clear hM299
                refine s_val hM301 (.inl rfl) rfl rfl (ev_fldw (m := 15) rfl rfl (fun w => by simp [go_sem])) (fun a304 hM303 => ?_)
                clear hM301
                refine s_put hM303 rfl rfl rfl rfl rfl (KB277.out.on HB287.out) (by rw [HD3.out, msC_szp]; decide) (st_int Try.underlying3 (by kernel_rfl)) (fun w305 KB306_ hg307 => ?_)
                have KB306 : Hid (Blk w305 g273 42 D4) := by have h := KB306_; rw [HD3.out, set_cd] at h; rw [HD4.out, setD_6 h6]; exact h
                clear KB306_
                have HB308 := hide (below_of_grown HB283.out hg307 HB283.out.size lo280.out)
                have HB309 := hide (below_of_grown HB284.out hg307 HB284.out.size lo281.out)
                have HB310 := hide (below_of_grown HB285.out hg307 HB285.out.size lo282.out)
                clear HB283 HB284 HB285 HB287 hg307
                have HB312 : Hid (Below w305.heap.size w305 w305) := Below.refl _ _
                refine seg_nil (hK298 _ _ ?_)
                clear hK298 K298 QK298
                have hM313 := hM303.cut6 (t1 := 1) (t2 := 3) (t3 := 4) (t4 := 5) (t5 := 11) (t6 := 12) rfl rfl rfl rfl rfl rfl
                clear hM303
                refine hK289 _ _ ?_
                refine region_then fun K314 QK314 hK314 => ?_
                refine s_val hM313 (.inl rfl) rfl rfl (ev_move (.inl rfl) rfl) (fun a316 hM315 => ?_)
                clear hM313
                refine s_call hM315 (.inl rfl) rfl rfl (f := 19) (args := #[.int .i64 0]) (ev_call hM315 rfl rfl rfl (fun w => by simp [go_sem]) _) (law8_num _ _) (fun e w317 hp => ?_)
                obtain ⟨rfl, rfl⟩ := hp
                refine ⟨_, rfl, fun a320 hM319 => ?_⟩
                clear hM315
                refine s_val hM319 (.inl rfl) rfl rfl (ev_bin rfl rfl rfl g_int (b_neq (b := false) (by decide))) (fun a322 hM321 => ?_)
                clear hM319
                refine s_val hM321 (.inl rfl) rfl rfl (ev_move (.inl rfl) rfl) (fun a324 hM323 => ?_)
                clear hM321
                refine s_val hM323 (.inr ⟨_, _, _, rfl, rfl, rfl⟩) rfl rfl (ev_move (.inl rfl) rfl) (fun a326 hM325 => ?_)
                clear hM323
                refine s_val hM325 (.inr ⟨_, _, _, rfl, rfl, rfl⟩) rfl rfl (ev_loadm rfl rfl (KB247.out.on HB309.out).rng Try.underlying42 rfl (by rw [HD2.out]; exact Try.infoMsg)) (fun a328 hM327 => ?_)
                clear hM325
                refine s_call hM327 (.inr ⟨_, _, _, rfl, rfl, rfl⟩) rfl rfl (f := 23) (args := #[.pointer (some ⟨g, 0, none⟩), .int .i64 4, .slice none 0 0, .agg D2]) (ev_call hM327 rfl rfl rfl (fun w => by simp [go_sem]) _) (real_Check 4 (putM [] x) u2 _ (hide ((HBK.out.below HB309.out)).bw.bk) (hide sl_nil) (by omega) (hide ((HI.out.below HB309.out)).s) (hide ((HI.out.below HB309.out)).z) HD2 (r := 0) (HSG.out.chk3 (by have := HLW.out; omega))) (fun e w329 hp => ?_)
                obtain ⟨rfl, hb330⟩ := hp
                refine ⟨_, rfl, fun a332 hM331 => ?_⟩
                clear hM327
                have HB333 := hide (below_then HB308.out hb330)
                have HB334 := hide (below_then HB309.out hb330)
                have HB335 := hide (below_then HB310.out hb330)
                have HB336 := hide (below_then HB312.out hb330)
                clear hb330 HB308 HB309 HB310 HB312
                refine s_call hM331 (.inr ⟨_, _, _, rfl, rfl, rfl⟩) rfl rfl (f := 19) (args := #[.int .i64 0]) (ev_call hM331 rfl rfl rfl (fun w => by simp [go_sem]) _) (law8_num _ _) (fun e w337 hp => ?_)
                obtain ⟨rfl, rfl⟩ := hp
                refine ⟨_, rfl, fun a340 hM339 => ?_⟩
                clear hM331
                refine s_val hM339 (.inr ⟨_, _, _, rfl, rfl, rfl⟩) rfl rfl (ev_bin rfl rfl rfl g_int (b_neq (b := false) (by decide))) (fun a342 hM341 => ?_)
                clear hM339
                refine s_val hM341 (.inl rfl) rfl rfl (ev_pick rfl rfl rfl) (fun a344 hM343 => ?_)
                clear hM341
                refine s_val hM343 (.inl rfl) rfl rfl (ev_move (.inl rfl) rfl) (fun a346 hM345 => ?_)
                clear hM343
                refine s_val hM345 (.inr ⟨_, _, _, rfl, rfl, rfl⟩) rfl rfl (ev_move (.inl rfl) rfl) (fun a348 hM347 => ?_)
                clear hM345
                refine s_alloc (e := 3) hM347 (.inr ⟨_, _, _, rfl, rfl, rfl⟩) rfl rfl (V := fun g => .slice (some ⟨g, 0, none⟩) 4 4) (ev_bsg (C := #[.int .i64 1, .int .i64 2, .int .i64 3, .int .i64 4]) hM347 rfl rfl (fun w => by kernel_rfl)) (fun g349 a355 w350 hM354 KB353_ hb351 hg352 => ?_)
                have KB353 := hide KB353_
                clear hM347 KB353_
                clear hg352
                have HB356 := hide (below_then HB333.out hb351)
                have HB357 := hide (below_then HB334.out hb351)
                have HB358 := hide (below_then HB335.out hb351)
                have HB359 := hide (below_then HB336.out hb351)
                clear hb351 HB333 HB334 HB335 HB336
                have HB361 : Hid (Below w350.heap.size w350 w350) := Below.refl _ _
                have HL4 := hide (show Sl _ 1 _ 4 (ints [1, 2, 3, 4]) from Sl.of_blk_ KB353.out)
                refine s_val hM354 (.inr ⟨_, _, _, rfl, rfl, rfl⟩) rfl rfl (ev_loadm rfl rfl (KB306.out.on HB359.out).rng Try.underlying42 rfl (by rw [HD4.out]; exact Try.infoMsg)) (fun a363 hM362 => ?_)
                clear hM354
                refine s_call hM362 (.inr ⟨_, _, _, rfl, rfl, rfl⟩) rfl rfl (f := 23) (args := #[.pointer (some ⟨g, 0, none⟩), .int .i64 4, .slice ((some ⟨g349, 0, none⟩)) 4 4, .agg D4]) (ev_call hM362 rfl rfl rfl (fun w => by simp [go_sem]) _) (real_Check 4 (setD (putM [] x) 2) u3 _ (hide ((HBK.out.below HB357.out)).bw.bk) (hide (HL4.out.below HB361.out)) (by omega) (hide (setD_s (HS3.out.below HB358.out))) (hide (setD_z HZ3.out)) HD4 (r := 7) HSG.out.chk4) (fun e w364 hp => ?_)
                obtain ⟨rfl, hb365⟩ := hp
                refine ⟨_, rfl, fun a367 hM366 => ?_⟩
                clear hM362
                have HB368 := hide (below_then HB356.out hb365)
                have HB369 := hide (below_then HB357.out hb365)
                have HB370 := hide (below_then HB358.out hb365)
                have HB371 := hide (below_then HB359.out hb365)
                have HB372 := hide (below_then HB361.out hb365)
                clear hb365 HB356 HB357 HB358 HB359 HB361
                refine s_call hM366 (.inr ⟨_, _, _, rfl, rfl, rfl⟩) rfl rfl (f := 19) (args := #[.int .i64 7]) (ev_call hM366 rfl rfl rfl (fun w => by simp [go_sem]) _) (law8_num _ _) (fun e w373 hp => ?_)
                obtain ⟨rfl, rfl⟩ := hp
                refine ⟨_, rfl, fun a376 hM375 => ?_⟩
                clear hM366
                refine s_val hM375 (.inr ⟨_, _, _, rfl, rfl, rfl⟩) rfl rfl (ev_bin rfl rfl rfl g_int (b_neq (b := false) (by decide))) (fun a378 hM377 => ?_)
                clear hM375
                refine s_val hM377 (.inl rfl) rfl rfl (ev_pick rfl rfl rfl) (fun a380 hM379 => ?_)
                clear hM377
                refine seg_nil (hK314 _ _ ?_)
                clear hK314 K314 QK314
                have hM381 := hM379.cut3 (t1 := 1) (t2 := 3) (t3 := 166) rfl rfl rfl
                clear hM379
                refine wp_cond_false (hM381.ev (t := 166) rfl) ?_
                refine wp_skip ?_
                refine inb_n ?_
                refine hK109 _ _ ?_
                refine region_last fun K382 QK382 hK382 => ?_
                refine s_val hM381 (.inl rfl) rfl rfl (ev_move (.inl rfl) rfl) (fun a384 hM383 => ?_)
                clear hM381
                refine s_val hM383 (.inl rfl) rfl rfl (ev_bin rfl rfl rfl g_int (b_add (r := ((j + 1 : Nat) : Int)) (by omega) (by omega))) (fun a386 hM385 => ?_)
                clear hM383
                refine s_val hM385 (.inl rfl) rfl rfl (ev_move (.inr rfl) rfl) (fun a388 hM387 => ?_)
                clear hM385
                refine seg_nil (hK382 _ _ ?_)
                clear hK382 K382 QK382
                have hM389 := hM387.cut2 (t1 := 1) (t2 := 3) rfl rfl
                clear hM387
                have hM390 := hM389.cut2 (t1 := 3) (t2 := 1) rfl rfl
                clear hM389
                exact ⟨s.l.n - (j + 1), by omega, j + 1, rfl, hM390, HB368⟩
              case neg =>
                refine region_then fun K391 QK391 hK391 => ?_
                refine s_val hM288 (.inl rfl) rfl rfl (ev_fldw (m := 0) rfl rfl (fun w => by simp [go_sem])) (fun a393 hM392 => ?_)
                clear hM288
                refine s_val hM392 (.inl rfl) rfl rfl (ev_load1 (v := .int .i64 ((putM [] x).k)) rfl rfl ((KB247.out.on HB284.out).rng.at_ (m := 0) (by rw [HD2.out]; rfl)) (isAgg_no Try.underlying3 rfl)) (fun a395 hM394 => ?_)
                clear hM392
                refine s_val hM394 (.inl rfl) rfl rfl (ev_bin rfl rfl rfl g_int (b_eql (b := false) (by simp [h6]))) (fun a397 hM396 => ?_)
                clear hM394
                refine seg_nil (hK391 _ _ ?_)
                clear hK391 K391 QK391
                have hM398 := hM396.cut8 (t1 := 1) (t2 := 3) (t3 := 4) (t4 := 5) (t5 := 10) (t6 := 11) (t7 := 12) (t8 := 143) rfl rfl rfl rfl rfl rfl rfl rfl
                clear hM396
                refine wp_cond_false (hM398.ev (t := 143) rfl) ?_
                refine region_last fun K399 QK399 hK399 => ?_
                refine s_val hM398 (.inl rfl) rfl rfl (ev_move (.inl rfl) rfl) (fun a401 hM400 => ?_)
                clear hM398
                refine s_val hM400 (.inl rfl) rfl rfl (ev_fldw (m := 3) rfl rfl (fun w => by simp [go_sem])) (fun a403 hM402 => ?_)
                clear hM400
                refine s_put hM402 rfl rfl rfl rfl rfl (KB277.out.on HB287.out) (by rw [HD3.out, msC_szp]; decide) (st_int Try.underlying3 (by kernel_rfl)) (fun w404 KB405_ hg406 => ?_)
                have KB405 : Hid (Blk w404 g273 42 D4) := by have h := KB405_; rw [HD3.out, set_d] at h; rw [HD4.out, setD_n h6]; exact h
                clear KB405_
                have HB407 := hide (below_of_grown HB283.out hg406 HB283.out.size lo280.out)
                have HB408 := hide (below_of_grown HB284.out hg406 HB284.out.size lo281.out)
                have HB409 := hide (below_of_grown HB285.out hg406 HB285.out.size lo282.out)
                clear HB283 HB284 HB285 HB287 hg406
                have HB411 : Hid (Below w404.heap.size w404 w404) := Below.refl _ _
                refine seg_nil (hK399 _ _ ?_)
                clear hK399 K399 QK399
                have hM412 := hM402.cut6 (t1 := 1) (t2 := 3) (t3 := 4) (t4 := 5) (t5 := 11) (t6 := 12) rfl rfl rfl rfl rfl rfl
                clear hM402
                refine hK289 _ _ ?_
                refine region_then fun K413 QK413 hK413 => ?_
                refine s_val hM412 (.inl rfl) rfl rfl (ev_move (.inl rfl) rfl) (fun a415 hM414 => ?_)
                clear hM412
                refine s_call hM414 (.inl rfl) rfl rfl (f := 19) (args := #[.int .i64 0]) (ev_call hM414 rfl rfl rfl (fun w => by simp [go_sem]) _) (law8_num _ _) (fun e w416 hp => ?_)
                obtain ⟨rfl, rfl⟩ := hp
                refine ⟨_, rfl, fun a419 hM418 => ?_⟩
                clear hM414
                refine s_val hM418 (.inl rfl) rfl rfl (ev_bin rfl rfl rfl g_int (b_neq (b := false) (by decide))) (fun a421 hM420 => ?_)
                clear hM418
                refine s_val hM420 (.inl rfl) rfl rfl (ev_move (.inl rfl) rfl) (fun a423 hM422 => ?_)
                clear hM420
                refine s_val hM422 (.inr ⟨_, _, _, rfl, rfl, rfl⟩) rfl rfl (ev_move (.inl rfl) rfl) (fun a425 hM424 => ?_)
                clear hM422
                refine s_val hM424 (.inr ⟨_, _, _, rfl, rfl, rfl⟩) rfl rfl (ev_loadm rfl rfl (KB247.out.on HB408.out).rng Try.underlying42 rfl (by rw [HD2.out]; exact Try.infoMsg)) (fun a427 hM426 => ?_)
                clear hM424
                refine s_call hM426 (.inr ⟨_, _, _, rfl, rfl, rfl⟩) rfl rfl (f := 23) (args := #[.pointer (some ⟨g, 0, none⟩), .int .i64 4, .slice none 0 0, .agg D2]) (ev_call hM426 rfl rfl rfl (fun w => by simp [go_sem]) _) (real_Check 4 (putM [] x) u2 _ (hide ((HBK.out.below HB408.out)).bw.bk) (hide sl_nil) (by omega) (hide ((HI.out.below HB408.out)).s) (hide ((HI.out.below HB408.out)).z) HD2 (r := 0) (HSG.out.chk3 (by have := HLW.out; omega))) (fun e w428 hp => ?_)
                obtain ⟨rfl, hb429⟩ := hp
                refine ⟨_, rfl, fun a431 hM430 => ?_⟩
                clear hM426
                have HB432 := hide (below_then HB407.out hb429)
                have HB433 := hide (below_then HB408.out hb429)
                have HB434 := hide (below_then HB409.out hb429)
                have HB435 := hide (below_then HB411.out hb429)
                clear hb429 HB407 HB408 HB409 HB411
                refine s_call hM430 (.inr ⟨_, _, _, rfl, rfl, rfl⟩) rfl rfl (f := 19) (args := #[.int .i64 0]) (ev_call hM430 rfl rfl rfl (fun w => by simp [go_sem]) _) (law8_num _ _) (fun e w436 hp => ?_)
                obtain ⟨rfl, rfl⟩ := hp
                refine ⟨_, rfl, fun a439 hM438 => ?_⟩
                clear hM430
                refine s_val hM438 (.inr ⟨_, _, _, rfl, rfl, rfl⟩) rfl rfl (ev_bin rfl rfl rfl g_int (b_neq (b := false) (by decide))) (fun a441 hM440 => ?_)
                clear hM438
                refine s_val hM440 (.inl rfl) rfl rfl (ev_pick rfl rfl rfl) (fun a443 hM442 => ?_)
                clear hM440
                refine s_val hM442 (.inl rfl) rfl rfl (ev_move (.inl rfl) rfl) (fun a445 hM444 => ?_)
                clear hM442
                refine s_val hM444 (.inr ⟨_, _, _, rfl, rfl, rfl⟩) rfl rfl (ev_move (.inl rfl) rfl) (fun a447 hM446 => ?_)
                clear hM444
                refine s_alloc (e := 3) hM446 (.inr ⟨_, _, _, rfl, rfl, rfl⟩) rfl rfl (V := fun g => .slice (some ⟨g, 0, none⟩) 4 4) (ev_bsg (C := #[.int .i64 1, .int .i64 2, .int .i64 3, .int .i64 4]) hM446 rfl rfl (fun w => by kernel_rfl)) (fun g448 a454 w449 hM453 KB452_ hb450 hg451 => ?_)
                have KB452 := hide KB452_
                clear hM446 KB452_
                clear hg451
                have HB455 := hide (below_then HB432.out hb450)
                have HB456 := hide (below_then HB433.out hb450)
                have HB457 := hide (below_then HB434.out hb450)
                have HB458 := hide (below_then HB435.out hb450)
                clear hb450 HB432 HB433 HB434 HB435
                have HB460 : Hid (Below w449.heap.size w449 w449) := Below.refl _ _
                have HL4 := hide (show Sl _ 1 _ 4 (ints [1, 2, 3, 4]) from Sl.of_blk_ KB452.out)
                refine s_val hM453 (.inr ⟨_, _, _, rfl, rfl, rfl⟩) rfl rfl (ev_loadm rfl rfl (KB405.out.on HB458.out).rng Try.underlying42 rfl (by rw [HD4.out]; exact Try.infoMsg)) (fun a462 hM461 => ?_)
                clear hM453
                refine s_call hM461 (.inr ⟨_, _, _, rfl, rfl, rfl⟩) rfl rfl (f := 23) (args := #[.pointer (some ⟨g, 0, none⟩), .int .i64 4, .slice ((some ⟨g448, 0, none⟩)) 4 4, .agg D4]) (ev_call hM461 rfl rfl rfl (fun w => by simp [go_sem]) _) (real_Check 4 (setD (putM [] x) 2) u3 _ (hide ((HBK.out.below HB456.out)).bw.bk) (hide (HL4.out.below HB460.out)) (by omega) (hide (setD_s (HS3.out.below HB457.out))) (hide (setD_z HZ3.out)) HD4 (r := 7) HSG.out.chk4) (fun e w463 hp => ?_)
                obtain ⟨rfl, hb464⟩ := hp
                refine ⟨_, rfl, fun a466 hM465 => ?_⟩
                clear hM461
                have HB467 := hide (below_then HB455.out hb464)
                have HB468 := hide (below_then HB456.out hb464)
                have HB469 := hide (below_then HB457.out hb464)
                have HB470 := hide (below_then HB458.out hb464)
                have HB471 := hide (below_then HB460.out hb464)
                clear hb464 HB455 HB456 HB457 HB458 HB460
                refine s_call hM465 (.inr ⟨_, _, _, rfl, rfl, rfl⟩) rfl rfl (f := 19) (args := #[.int .i64 7]) (ev_call hM465 rfl rfl rfl (fun w => by simp [go_sem]) _) (law8_num _ _) (fun e w472 hp => ?_)
                obtain ⟨rfl, rfl⟩ := hp
                refine ⟨_, rfl, fun a475 hM474 => ?_⟩
                clear hM465
                refine s_val hM474 (.inr ⟨_, _, _, rfl, rfl, rfl⟩) rfl rfl (ev_bin rfl rfl rfl g_int (b_neq (b := false) (by decide))) (fun a477 hM476 => ?_)
                clear hM474
                refine s_val hM476 (.inl rfl) rfl rfl (ev_pick rfl rfl rfl) (fun a479 hM478 => ?_)
                clear hM476
                refine seg_nil (hK413 _ _ ?_)
                clear hK413 K413 QK413
                have hM480 := hM478.cut3 (t1 := 1) (t2 := 3) (t3 := 166) rfl rfl rfl
                clear hM478
                refine wp_cond_false (hM480.ev (t := 166) rfl) ?_
                refine wp_skip ?_
                refine inb_n ?_
                refine hK109 _ _ ?_
                refine region_last fun K481 QK481 hK481 => ?_
                refine s_val hM480 (.inl rfl) rfl rfl (ev_move (.inl rfl) rfl) (fun a483 hM482 => ?_)
                clear hM480
                refine s_val hM482 (.inl rfl) rfl rfl (ev_bin rfl rfl rfl g_int (b_add (r := ((j + 1 : Nat) : Int)) (by omega) (by omega))) (fun a485 hM484 => ?_)
                clear hM482
                refine s_val hM484 (.inl rfl) rfl rfl (ev_move (.inr rfl) rfl) (fun a487 hM486 => ?_)
                clear hM484
                refine seg_nil (hK481 _ _ ?_)
                clear hK481 K481 QK481
                have hM488 := hM486.cut2 (t1 := 1) (t2 := 3) rfl rfl
                clear hM486
                have hM489 := hM488.cut2 (t1 := 3) (t2 := 1) rfl rfl
                clear hM488
                exact ⟨s.l.n - (j + 1), by omega, j + 1, rfl, hM489, HB467⟩
            case pos =>
              refine region_then fun K490 QK490 hK490 => ?_
              refine s_val hM211 (.inl rfl) rfl rfl (ev_move (.inl rfl) rfl) (fun a492 hM491 => ?_)
              clear hM211
              refine s_val hM491 (.inl rfl) rfl rfl (ev_move (.inl rfl) rfl) (fun a494 hM493 => ?_)
              clear hM491
              refine s_val hM493 (.inl rfl) rfl rfl (ev_len rfl rfl Try.underlying22) (fun a496 hM495 => ?_)
              clear hM493
              refine s_val hM495 (.inl rfl) rfl rfl (ev_bin rfl rfl rfl g_int (b_lss (b := true) (by rw [decide_eq_true_eq]; omega))) (fun a498 hM497 => ?_)
              clear hM495
              refine seg_nil (hK490 _ _ ?_)
              clear hK490 K490 QK490
              have hM499 := hM497.cut8 (t1 := 1) (t2 := 3) (t3 := 4) (t4 := 5) (t5 := 7) (t6 := 8) (t7 := 9) (t8 := 90) rfl rfl rfl rfl rfl rfl rfl rfl
              clear hM497
              refine wp_cond_true (hM499.ev (t := 90) rfl) ?_
              refine wp_skip ?_
              refine hK216 _ _ ?_
              refine wp_seq_k fun K500 hK500 => ?_
              refine wp_block ?_
              refine wp_seq_k fun K501 hK501 => ?_
              obtain ⟨bz, oz, zz, hAz, HZK, hcz, -⟩ := ((HW.out.below HB215.out)).n.sl.int hlw
              have HCZ := hide (CellAt.of hcz)
              clear hcz
              have HB503 : Hid (Below w209.heap.size w209 w209) := Below.refl _ _
              by_cases hk1 : kk + 1 = nW
              case pos =>
                refine h_open 30 rfl (by kernel_rfl) fun K504 w505 hb506 hK504 => ?_
                have HB507 := hide (below_then HB212.out hb506)
                have HB508 := hide (below_then HB215.out hb506)
                have HB509 := hide (below_then HB503.out hb506)
                clear hb506 HB212 HB215 HB503
                have hS510 : Below w505.heap.size w505 w505 := Below.refl _ _
                refine h_val 0 rfl (by kernel_rfl) (by kernel_rfl) (by kernel_rfl) hM499 (.inl rfl) rfl rfl hS510 (fun w' hr => (ev_move (.inl rfl) rfl)) (fun a512 hM511 => ?_)
                clear hM499
                refine h_val 1 rfl (by kernel_rfl) (by kernel_rfl) (by kernel_rfl) hM511 (.inl rfl) rfl rfl hS510 (fun w' hr => (ev_loadm rfl rfl ((KB5.out.on HB508.out).on hr).rng Try.underlying42 rfl (by rw [HD2.out]; exact Try.infoMsg))) (fun a514 hM513 => ?_)
                clear hM511
                refine h_call 2 rfl (by kernel_rfl) hM513 (.inl rfl) rfl rfl (f := 23) (args := #[.pointer (some ⟨g, 0, none⟩), .int .i64 4, .slice none 0 0, .agg D2]) (ev_call hM513 rfl rfl rfl (fun w => by simp [go_sem]) _) (real_Check 4 (putM [] x) u2 _ (hide ((HBK.out.below HB508.out)).bw.bk) (hide sl_nil) (by omega) (hide ((HI.out.below HB508.out)).s) (hide ((HI.out.below HB508.out)).z) HD2 (r := 7) (HSG.out.chk0 HZK.out)) (fun e w515 hp => ?_)
                obtain ⟨rfl, hb516⟩ := hp
                have hS519 := s_in hS510 hb516
                refine ⟨_, rfl, fun a518 hM517 => ⟨hS519, ?_⟩⟩
                clear hM513
                have HB520 := hide (below_then HB507.out hb516)
                have HB521 := hide (below_then HB508.out hb516)
                have HB522 := hide (below_then HB509.out hb516)
                clear hb516
                refine h_call 3 rfl (by kernel_rfl) hM517 (.inl rfl) rfl rfl (f := 19) (args := #[.int .i64 7]) (ev_call hM517 rfl rfl rfl (fun w => by simp [go_sem]) _) (law8_num _ _) (fun e w523 hp => ?_)
                obtain ⟨rfl, rfl⟩ := hp
                refine ⟨_, rfl, fun a526 hM525 => ⟨hS519, ?_⟩⟩
                clear hM517
                refine h_val 4 rfl (by kernel_rfl) (by kernel_rfl) (by kernel_rfl) hM525 (.inl rfl) rfl rfl hS519 (fun w' hr => (ev_bin rfl rfl rfl g_int (b_neq (b := false) (by decide)))) (fun a528 hM527 => ?_)
                clear hM525
                refine h_val 5 rfl (by kernel_rfl) (by kernel_rfl) (by kernel_rfl) hM527 (.inl rfl) rfl rfl hS519 (fun w' hr => (ev_move (.inl rfl) rfl)) (fun a530 hM529 => ?_)
                clear hM527
                refine h_val 6 rfl (by kernel_rfl) (by kernel_rfl) (by kernel_rfl) hM529 (.inr ⟨_, _, _, rfl, rfl, rfl⟩) rfl rfl hS519 (fun w' hr => (ev_move (.inl rfl) rfl)) (fun a532 hM531 => ?_)
                clear hM529
                refine h_val 7 rfl (by kernel_rfl) (by kernel_rfl) (by kernel_rfl) hM531 (.inr ⟨_, _, _, rfl, rfl, rfl⟩) rfl rfl hS519 (fun w' hr => (ev_move (.inl rfl) rfl)) (fun a534 hM533 => ?_)
                clear hM531
                refine h_val 8 rfl (by kernel_rfl) (by kernel_rfl) (by kernel_rfl) hM533 (.inr ⟨_, _, _, rfl, rfl, rfl⟩) rfl rfl hS519 (fun w' hr => (ev_loadm rfl rfl ((KB5.out.on HB508.out).on hr).rng Try.underlying42 rfl (by rw [HD2.out]; exact Try.infoMsg))) (fun a536 hM535 => ?_)
                clear hM533
                refine h_call 9 rfl (by kernel_rfl) hM535 (.inr ⟨_, _, _, rfl, rfl, rfl⟩) rfl rfl (f := 23) (args := #[.pointer (some ⟨g, 0, none⟩), .int .i64 4, .slice AW nW cW, .agg D2]) (ev_call hM535 rfl rfl rfl (fun w => by simp [go_sem]) _) (real_Check 4 (putM [] x) u2 _ (hide ((HBK.out.below HB521.out)).bw.bk) (hide ((HW.out.below HB521.out)).n.sl) (by have := HNC.out; omega) (hide ((HI.out.below HB521.out)).s) (hide ((HI.out.below HB521.out)).z) HD2 (r := 0) HSG.out.chk1) (fun e w537 hp => ?_)
                obtain ⟨rfl, hb538⟩ := hp
                have hS541 := s_in hS519 hb538
                refine ⟨_, rfl, fun a540 hM539 => ⟨hS541, ?_⟩⟩
                clear hM535
                have HB542 := hide (below_then HB520.out hb538)
                have HB543 := hide (below_then HB521.out hb538)
                have HB544 := hide (below_then HB522.out hb538)
                clear hb538 HB520 HB521 HB522
                refine h_call 10 rfl (by kernel_rfl) hM539 (.inr ⟨_, _, _, rfl, rfl, rfl⟩) rfl rfl (f := 19) (args := #[.int .i64 0]) (ev_call hM539 rfl rfl rfl (fun w => by simp [go_sem]) _) (law8_num _ _) (fun e w545 hp => ?_)
                obtain ⟨rfl, rfl⟩ := hp
                refine ⟨_, rfl, fun a548 hM547 => ⟨hS541, ?_⟩⟩
                clear hM539
                refine h_val 11 rfl (by kernel_rfl) (by kernel_rfl) (by kernel_rfl) hM547 (.inr ⟨_, _, _, rfl, rfl, rfl⟩) rfl rfl hS541 (fun w' hr => (ev_bin rfl rfl rfl g_int (b_neq (b := false) (by decide)))) (fun a550 hM549 => ?_)
                clear hM547
                refine h_val 12 rfl (by kernel_rfl) (by kernel_rfl) (by kernel_rfl) hM549 (.inl rfl) rfl rfl hS541 (fun w' hr => (ev_pick rfl rfl rfl)) (fun a552 hM551 => ?_)
                clear hM549
                refine h_val 13 rfl (by kernel_rfl) (by kernel_rfl) (by kernel_rfl) hM551 (.inl rfl) rfl rfl hS541 (fun w' hr => (ev_move (.inl rfl) rfl)) (fun a554 hM553 => ?_)
                clear hM551
                refine h_val 14 rfl (by kernel_rfl) (by kernel_rfl) (by kernel_rfl) hM553 (.inr ⟨_, _, _, rfl, rfl, rfl⟩) rfl rfl hS541 (fun w' hr => (ev_move (.inl rfl) rfl)) (fun a556 hM555 => ?_)
                clear hM553
                refine h_val 15 rfl (by kernel_rfl) (by kernel_rfl) (by kernel_rfl) hM555 (.inr ⟨_, _, _, rfl, rfl, rfl⟩) rfl rfl hS541 (fun w' hr => (ev_move (.inl rfl) rfl)) (fun a558 hM557 => ?_)
                clear hM555
                refine h_val 16 rfl (by kernel_rfl) (by kernel_rfl) (by kernel_rfl) hM557 (.inr ⟨_, _, _, rfl, rfl, rfl⟩) rfl rfl hS541 (fun w' hr => (ev_len rfl rfl Try.underlying22)) (fun a560 hM559 => ?_)
                clear hM557
                refine h_val 17 rfl (by kernel_rfl) (by kernel_rfl) (by kernel_rfl) hM559 (.inr ⟨_, _, _, rfl, rfl, rfl⟩) rfl rfl hS541 (fun w' hr => (ev_bin rfl rfl rfl g_int (b_sub (r := ((nW : Int) - 1)) rfl (by have := HNC.out; omega)))) (fun a562 hM561 => ?_)
                clear hM559
                refine h_val 18 rfl (by kernel_rfl) (by kernel_rfl) (by kernel_rfl) hM561 (.inr ⟨_, _, _, rfl, rfl, rfl⟩) rfl rfl hS541 (fun w' hr => (ev_bin rfl rfl rfl g_int (b_eql (b := true) (by rw [decide_eq_true_eq]; omega)))) (fun a564 hM563 => ?_)
                clear hM561
                refine h_val 19 rfl (by kernel_rfl) (by kernel_rfl) (by kernel_rfl) hM563 (.inr ⟨_, _, _, rfl, rfl, rfl⟩) rfl rfl hS541 (fun w' hr => (ev_move (.inl rfl) rfl)) (fun a566 hM565 => ?_)
                clear hM563
                refine h_val 20 rfl (by kernel_rfl) (by kernel_rfl) (by kernel_rfl) hM565 (.inr ⟨_, _, _, rfl, rfl, rfl⟩) rfl rfl hS541 (fun w' hr => (ev_move (.inl rfl) rfl)) (fun a568 hM567 => ?_)
                clear hM565
                refine h_val 21 rfl (by kernel_rfl) (by kernel_rfl) (by kernel_rfl) hM567 (.inr ⟨_, _, _, rfl, rfl, rfl⟩) rfl rfl hS541 (fun w' hr => (ev_move (.inl rfl) rfl)) (fun a570 hM569 => ?_)
                clear hM567
                refine h_val 22 rfl (by kernel_rfl) (by kernel_rfl) (by kernel_rfl) hM569 (.inr ⟨_, _, _, rfl, rfl, rfl⟩) rfl rfl hS541 (fun w' hr => (ev_move (.inl rfl) rfl)) (fun a572 hM571 => ?_)
                clear hM569
                refine h_val 23 rfl (by kernel_rfl) (by kernel_rfl) (by kernel_rfl) hM571 (.inr ⟨_, _, _, rfl, rfl, rfl⟩) rfl rfl hS541 (fun w' hr => (ev_slice_l (k := kk) rfl rfl rfl (by kernel_rfl) (fun w => by kernel_rfl) (by omega))) (fun a574 hM573 => ?_)
                clear hM571
                refine h_val 24 rfl (by kernel_rfl) (by kernel_rfl) (by kernel_rfl) hM573 (.inr ⟨_, _, _, rfl, rfl, rfl⟩) rfl rfl hS541 (fun w' hr => (ev_loadm rfl rfl ((KB5.out.on HB508.out).on hr).rng Try.underlying42 rfl (by rw [HD2.out]; exact Try.infoMsg))) (fun a576 hM575 => ?_)
                clear hM573
                refine h_call 25 rfl (by kernel_rfl) hM575 (.inr ⟨_, _, _, rfl, rfl, rfl⟩) rfl rfl (f := 23) (args := #[.pointer (some ⟨g, 0, none⟩), .int .i64 4, .slice ((dropA AW cW kk)) ((nW - kk)) ((cW - kk)), .agg D2]) (ev_call hM575 rfl rfl rfl (fun w => by simp [go_sem]) _) (real_Check 4 (putM [] x) u2 _ (hide ((HBK.out.below HB543.out)).bw.bk) (hide (((HW.out.below HB543.out)).n.sl.drop1 hlw HNC.out.2)) (by have := HNC.out; omega) (hide ((HI.out.below HB543.out)).s) (hide ((HI.out.below HB543.out)).z) HD2 (r := 0) HSG.out.chk2) (fun e w577 hp => ?_)
                obtain ⟨rfl, hb578⟩ := hp
                have hS581 := s_in hS541 hb578
                refine ⟨_, rfl, fun a580 hM579 => ⟨hS581, ?_⟩⟩
                clear hM575
                have HB582 := hide (below_then HB542.out hb578)
                have HB583 := hide (below_then HB543.out hb578)
                have HB584 := hide (below_then HB544.out hb578)
                clear hb578 HB542 HB543 HB544
                refine h_call 26 rfl (by kernel_rfl) hM579 (.inr ⟨_, _, _, rfl, rfl, rfl⟩) rfl rfl (f := 19) (args := #[.int .i64 0]) (ev_call hM579 rfl rfl rfl (fun w => by simp [go_sem]) _) (law8_num _ _) (fun e w585 hp => ?_)
                obtain ⟨rfl, rfl⟩ := hp
                refine ⟨_, rfl, fun a588 hM587 => ⟨hS581, ?_⟩⟩
                clear hM579
                refine h_val 27 rfl (by kernel_rfl) (by kernel_rfl) (by kernel_rfl) hM587 (.inr ⟨_, _, _, rfl, rfl, rfl⟩) rfl rfl hS581 (fun w' hr => (ev_bin rfl rfl rfl g_int (b_neq (b := false) (by decide)))) (fun a590 hM589 => ?_)
                clear hM587
                refine h_val 28 rfl (by kernel_rfl) (by kernel_rfl) (by kernel_rfl) hM589 (.inr ⟨_, _, _, rfl, rfl, rfl⟩) rfl rfl hS581 (fun w' hr => (ev_pick rfl rfl rfl)) (fun a592 hM591 => ?_)
                clear hM589
                refine h_val 29 rfl (by kernel_rfl) (by kernel_rfl) (by kernel_rfl) hM591 (.inl rfl) rfl rfl hS581 (fun w' hr => (ev_pick rfl rfl rfl)) (fun a594 hM593 => ?_)
                clear hM591
                refine h_nil (by kernel_rfl) (hK504 _ _ ?_)
                clear hK504 K504 hS581 HB507 HB508 HB509
                have hM595 := hM593.cut8 (t1 := 1) (t2 := 3) (t3 := 4) (t4 := 5) (t5 := 7) (t6 := 8) (t7 := 9) (t8 := 122) rfl rfl rfl rfl rfl rfl rfl rfl
                clear hM593
                refine wp_cond_false (hM595.ev (t := 122) rfl) ?_
                refine wp_skip ?_
                refine hK501 _ _ ?_
                refine region_then fun K596 QK596 hK596 => ?_
                refine s_val hM595 (.inl rfl) rfl rfl (ev_move (.inl rfl) rfl) (fun a598 hM597 => ?_)
                clear hM595
                refine s_val hM597 (.inl rfl) rfl rfl (ev_move (.inl rfl) rfl) (fun a600 hM599 => ?_)
                clear hM597
                refine s_val hM599 (.inl rfl) rfl rfl (ev_move (.inl rfl) rfl) (fun a602 hM601 => ?_)
                clear hM599
                refine s_val hM601 (.inl rfl) rfl rfl (ev_idx (b := bz) (k := kk) (sz := 1) (p := oz + kk) rfl (by rw [← hAz]; rfl) rfl Try.underlying22 (by kernel_rfl) hlw (by omega)) (fun a604 hM603 => ?_)
                clear hM601
                refine s_val hM603 (.inl rfl) rfl rfl (ev_load1 (v := .int .i64 zz) rfl rfl ((HCZ.out.below HB584.out)).2 (isAgg_no Try.underlying3 rfl)) (fun a606 hM605 => ?_)
                clear hM603
                refine s_val hM605 (.inl rfl) rfl rfl (ev_move (.inl rfl) rfl) (fun a608 hM607 => ?_)
                clear hM605
                refine s_call hM607 (.inl rfl) rfl rfl (f := 20) (args := #[.pointer (some ⟨g, 0, none⟩), .int .i64 zz, .int .i64 1]) (ev_call hM607 rfl rfl rfl (fun w => by simp [go_sem]) _) (book_Sign zz 1 _ ((HBK.out.below HB583.out)).bw.bk (r := 0) (HSG.out.sgr HZK.out)) (fun e w609 hp => ?_)
                obtain ⟨rfl, h1, h2⟩ := hp
                have HBK_ := hide (show BkK w41 G1b w609 g [bs] (sgW W (kk + 1)) from by rw [← sgW_up HZK.out]; exact ((HBK.out.below HB583.out)).sign h1 h2)
                have HI_ := hide (((HI.out.below HB583.out)).chg h2)
                have HW_ := hide (((HW.out.below HB583.out)).chg h2)
                have KB613 := hide (((KB5.out.on HB583.out)).chg h2 HN5.out)
                have HB614 := hide (below_then HNW.out HBK_.out.bw.below)
                clear HB582 HB583 HB584 KB5 HBK HI HW h1 h2
                have HBK := HBK_
                clear HBK_
                have HI := HI_
                clear HI_
                have HW := HW_
                clear HW_
                have HB616 : Hid (Below w609.heap.size w609 w609) := Below.refl _ _
                refine ⟨_, rfl, fun a612 hM611 => ?_⟩
                clear hM607
                refine s_call hM611 (.inl rfl) rfl rfl (f := 19) (args := #[.int .i64 0]) (ev_call hM611 rfl rfl rfl (fun w => by simp [go_sem]) _) (law8_num _ _) (fun e w617 hp => ?_)
                obtain ⟨rfl, rfl⟩ := hp
                refine ⟨_, rfl, fun a620 hM619 => ?_⟩
                clear hM611
                refine s_val hM619 (.inl rfl) rfl rfl (ev_bin rfl rfl rfl g_int (b_neq (b := false) (by decide))) (fun a622 hM621 => ?_)
                clear hM619
                refine seg_nil (hK596 _ _ ?_)
                clear hK596 K596 QK596
                have hM623 := hM621.cut8 (t1 := 1) (t2 := 3) (t3 := 4) (t4 := 5) (t5 := 7) (t6 := 8) (t7 := 9) (t8 := 131) rfl rfl rfl rfl rfl rfl rfl rfl
                clear hM621
                refine wp_cond_false (hM623.ev (t := 131) rfl) ?_
                refine wp_skip ?_
                refine inb_n ?_
                refine hK500 _ _ ?_
                refine region_last fun K624 QK624 hK624 => ?_
                refine s_val hM623 (.inl rfl) rfl rfl (ev_move (.inl rfl) rfl) (fun a626 hM625 => ?_)
                clear hM623
                refine s_val hM625 (.inl rfl) rfl rfl (ev_bin rfl rfl rfl g_int (b_add (r := ((kk + 1 : Nat) : Int)) (by omega) (by have := HNC.out; omega))) (fun a628 hM627 => ?_)
                clear hM625
                refine s_val hM627 (.inl rfl) rfl rfl (ev_move (.inr rfl) rfl) (fun a630 hM629 => ?_)
                clear hM627
                refine seg_nil (hK624 _ _ ?_)
                clear hK624 K624 QK624
                have hM631 := hM629.cut7 (t1 := 1) (t2 := 3) (t3 := 4) (t4 := 5) (t5 := 7) (t6 := 8) (t7 := 9) rfl rfl rfl rfl rfl rfl rfl
                clear hM629
                have hM632 := hM631.cut7 (t1 := 9) (t2 := 1) (t3 := 3) (t4 := 4) (t5 := 5) (t6 := 7) (t7 := 8) rfl rfl rfl rfl rfl rfl rfl
                clear hM631
                exact ⟨nW - (kk + 1), by omega, kk + 1, rfl, hM632, HB614, (hide (HBK.out.below HB616.out)), (hide (HI.out.below HB616.out)), (hide (KB613.out.on HB616.out)), (hide (HW.out.below HB616.out))⟩
              case neg =>
                refine h_open 30 rfl (by kernel_rfl) fun K633 w634 hb635 hK633 => ?_
                have HB636 := hide (below_then HB212.out hb635)
                have HB637 := hide (below_then HB215.out hb635)
                have HB638 := hide (below_then HB503.out hb635)
                clear hb635 HB212 HB215 HB503
                have hS639 : Below w634.heap.size w634 w634 := Below.refl _ _
                refine h_val 0 rfl (by kernel_rfl) (by kernel_rfl) (by kernel_rfl) hM499 (.inl rfl) rfl rfl hS639 (fun w' hr => (ev_move (.inl rfl) rfl)) (fun a641 hM640 => ?_)
                clear hM499
                refine h_val 1 rfl (by kernel_rfl) (by kernel_rfl) (by kernel_rfl) hM640 (.inl rfl) rfl rfl hS639 (fun w' hr => (ev_loadm rfl rfl ((KB5.out.on HB637.out).on hr).rng Try.underlying42 rfl (by rw [HD2.out]; exact Try.infoMsg))) (fun a643 hM642 => ?_)
                clear hM640
                refine h_call 2 rfl (by kernel_rfl) hM642 (.inl rfl) rfl rfl (f := 23) (args := #[.pointer (some ⟨g, 0, none⟩), .int .i64 4, .slice none 0 0, .agg D2]) (ev_call hM642 rfl rfl rfl (fun w => by simp [go_sem]) _) (real_Check 4 (putM [] x) u2 _ (hide ((HBK.out.below HB637.out)).bw.bk) (hide sl_nil) (by omega) (hide ((HI.out.below HB637.out)).s) (hide ((HI.out.below HB637.out)).z) HD2 (r := 7) (HSG.out.chk0 HZK.out)) (fun e w644 hp => ?_)
                obtain ⟨rfl, hb645⟩ := hp
                have hS648 := s_in hS639 hb645
                refine ⟨_, rfl, fun a647 hM646 => ⟨hS648, ?_⟩⟩
                clear hM642
                have HB649 := hide (below_then HB636.out hb645)
                have HB650 := hide (below_then HB637.out hb645)
                have HB651 := hide (below_then HB638.out hb645)
                clear hb645
                refine h_call 3 rfl (by kernel_rfl) hM646 (.inl rfl) rfl rfl (f := 19) (args := #[.int .i64 7]) (ev_call hM646 rfl rfl rfl (fun w => by simp [go_sem]) _) (law8_num _ _) (fun e w652 hp => ?_)
                obtain ⟨rfl, rfl⟩ := hp
                refine ⟨_, rfl, fun a655 hM654 => ⟨hS648, ?_⟩⟩
                clear hM646
                refine h_val 4 rfl (by kernel_rfl) (by kernel_rfl) (by kernel_rfl) hM654 (.inl rfl) rfl rfl hS648 (fun w' hr => (ev_bin rfl rfl rfl g_int (b_neq (b := false) (by decide)))) (fun a657 hM656 => ?_)
                clear hM654
                refine h_val 5 rfl (by kernel_rfl) (by kernel_rfl) (by kernel_rfl) hM656 (.inl rfl) rfl rfl hS648 (fun w' hr => (ev_move (.inl rfl) rfl)) (fun a659 hM658 => ?_)
                clear hM656
                refine h_val 6 rfl (by kernel_rfl) (by kernel_rfl) (by kernel_rfl) hM658 (.inr ⟨_, _, _, rfl, rfl, rfl⟩) rfl rfl hS648 (fun w' hr => (ev_move (.inl rfl) rfl)) (fun a661 hM660 => ?_)
                clear hM658
                refine h_val 7 rfl (by kernel_rfl) (by kernel_rfl) (by kernel_rfl) hM660 (.inr ⟨_, _, _, rfl, rfl, rfl⟩) rfl rfl hS648 (fun w' hr => (ev_move (.inl rfl) rfl)) (fun a663 hM662 => ?_)
                clear hM660
                refine h_val 8 rfl (by kernel_rfl) (by kernel_rfl) (by kernel_rfl) hM662 (.inr ⟨_, _, _, rfl, rfl, rfl⟩) rfl rfl hS648 (fun w' hr => (ev_loadm rfl rfl ((KB5.out.on HB637.out).on hr).rng Try.underlying42 rfl (by rw [HD2.out]; exact Try.infoMsg))) (fun a665 hM664 => ?_)
                clear hM662
                refine h_call 9 rfl (by kernel_rfl) hM664 (.inr ⟨_, _, _, rfl, rfl, rfl⟩) rfl rfl (f := 23) (args := #[.pointer (some ⟨g, 0, none⟩), .int .i64 4, .slice AW nW cW, .agg D2]) (ev_call hM664 rfl rfl rfl (fun w => by simp [go_sem]) _) (real_Check 4 (putM [] x) u2 _ (hide ((HBK.out.below HB650.out)).bw.bk) (hide ((HW.out.below HB650.out)).n.sl) (by have := HNC.out; omega) (hide ((HI.out.below HB650.out)).s) (hide ((HI.out.below HB650.out)).z) HD2 (r := 0) HSG.out.chk1) (fun e w666 hp => ?_)
                obtain ⟨rfl, hb667⟩ := hp
                have hS670 := s_in hS648 hb667
                refine ⟨_, rfl, fun a669 hM668 => ⟨hS670, ?_⟩⟩
                clear hM664
                have HB671 := hide (below_then HB649.out hb667)
                have HB672 := hide (below_then HB650.out hb667)
                have HB673 := hide (below_then HB651.out hb667)
                clear hb667 HB649 HB650 HB651
                refine h_call 10 rfl (by kernel_rfl) hM668 (.inr ⟨_, _, _, rfl, rfl, rfl⟩) rfl rfl (f := 19) (args := #[.int .i64 0]) (ev_call hM668 rfl rfl rfl (fun w => by simp [go_sem]) _) (law8_num _ _) (fun e w674 hp => ?_)
                obtain ⟨rfl, rfl⟩ := hp
                refine ⟨_, rfl, fun a677 hM676 => ⟨hS670, ?_⟩⟩
                clear hM668
                refine h_val 11 rfl (by kernel_rfl) (by kernel_rfl) (by kernel_rfl) hM676 (.inr ⟨_, _, _, rfl, rfl, rfl⟩) rfl rfl hS670 (fun w' hr => (ev_bin rfl rfl rfl g_int (b_neq (b := false) (by decide)))) (fun a679 hM678 => ?_)
                clear hM676
                refine h_val 12 rfl (by kernel_rfl) (by kernel_rfl) (by kernel_rfl) hM678 (.inl rfl) rfl rfl hS670 (fun w' hr => (ev_pick rfl rfl rfl)) (fun a681 hM680 => ?_)
                clear hM678
                refine h_val 13 rfl (by kernel_rfl) (by kernel_rfl) (by kernel_rfl) hM680 (.inl rfl) rfl rfl hS670 (fun w' hr => (ev_move (.inl rfl) rfl)) (fun a683 hM682 => ?_)
                clear hM680
                refine h_val 14 rfl (by kernel_rfl) (by kernel_rfl) (by kernel_rfl) hM682 (.inr ⟨_, _, _, rfl, rfl, rfl⟩) rfl rfl hS670 (fun w' hr => (ev_move (.inl rfl) rfl)) (fun a685 hM684 => ?_)
                clear hM682
                refine h_val 15 rfl (by kernel_rfl) (by kernel_rfl) (by kernel_rfl) hM684 (.inr ⟨_, _, _, rfl, rfl, rfl⟩) rfl rfl hS670 (fun w' hr => (ev_move (.inl rfl) rfl)) (fun a687 hM686 => ?_)
                clear hM684
                refine h_val 16 rfl (by kernel_rfl) (by kernel_rfl) (by kernel_rfl) hM686 (.inr ⟨_, _, _, rfl, rfl, rfl⟩) rfl rfl hS670 (fun w' hr => (ev_len rfl rfl Try.underlying22)) (fun a689 hM688 => ?_)
                clear hM686
                refine h_val 17 rfl (by kernel_rfl) (by kernel_rfl) (by kernel_rfl) hM688 (.inr ⟨_, _, _, rfl, rfl, rfl⟩) rfl rfl hS670 (fun w' hr => (ev_bin rfl rfl rfl g_int (b_sub (r := ((nW : Int) - 1)) rfl (by have := HNC.out; omega)))) (fun a691 hM690 => ?_)
                clear hM688
                refine h_val 18 rfl (by kernel_rfl) (by kernel_rfl) (by kernel_rfl) hM690 (.inr ⟨_, _, _, rfl, rfl, rfl⟩) rfl rfl hS670 (fun w' hr => (ev_bin rfl rfl rfl g_int (b_eql (b := false) (by rw [decide_eq_false_iff_not]; omega)))) (fun a693 hM692 => ?_)
                clear hM690
                refine h_val 19 rfl (by kernel_rfl) (by kernel_rfl) (by kernel_rfl) hM692 (.inr ⟨_, _, _, rfl, rfl, rfl⟩) rfl rfl hS670 (fun w' hr => (ev_move (.inl rfl) rfl)) (fun a695 hM694 => ?_)
                clear hM692
                refine h_skip 20 rfl (by kernel_rfl) (by kernel_rfl) (by kernel_rfl) hM694 rfl rfl rfl rfl rfl rfl hS670 (fun a697 hM696 => ?_)
                clear hM694
                refine h_skip 21 rfl (by kernel_rfl) (by kernel_rfl) (by kernel_rfl) hM696 rfl rfl rfl rfl rfl rfl hS670 (fun a699 hM698 => ?_)
                clear hM696
                refine h_skip 22 rfl (by kernel_rfl) (by kernel_rfl) (by kernel_rfl) hM698 rfl rfl rfl rfl rfl rfl hS670 (fun a701 hM700 => ?_)
                clear hM698
                refine h_skip 23 rfl (by kernel_rfl) (by kernel_rfl) (by kernel_rfl) hM700 rfl rfl rfl rfl rfl rfl hS670 (fun a703 hM702 => ?_)
                clear hM700
                refine h_skip 24 rfl (by kernel_rfl) (by kernel_rfl) (by kernel_rfl) hM702 rfl rfl rfl rfl rfl rfl hS670 (fun a705 hM704 => ?_)
                clear hM702
                refine h_skip 25 rfl (by kernel_rfl) (by kernel_rfl) (by kernel_rfl) hM704 rfl rfl rfl rfl rfl rfl hS670 (fun a707 hM706 => ?_)
                clear hM704
                refine h_skip 26 rfl (by kernel_rfl) (by kernel_rfl) (by kernel_rfl) hM706 rfl rfl rfl rfl rfl rfl hS670 (fun a709 hM708 => ?_)
                clear hM706
                refine h_skip 27 rfl (by kernel_rfl) (by kernel_rfl) (by kernel_rfl) hM708 rfl rfl rfl rfl rfl rfl hS670 (fun a711 hM710 => ?_)
                clear hM708
                refine h_val 28 rfl (by kernel_rfl) (by kernel_rfl) (by kernel_rfl) hM710 (.inr ⟨_, _, _, rfl, rfl, rfl⟩) rfl rfl hS670 (fun w' hr => (ev_pick rfl rfl rfl)) (fun a713 hM712 => ?_)
                clear hM710
                refine h_val 29 rfl (by kernel_rfl) (by kernel_rfl) (by kernel_rfl) hM712 (.inl rfl) rfl rfl hS670 (fun w' hr => (ev_pick rfl rfl rfl)) (fun a715 hM714 => ?_)
                clear hM712
                refine h_nil (by kernel_rfl) (hK633 _ _ ?_)
                clear hK633 K633 hS670 HB636 HB637 HB638
                have hM716 := hM714.cut8 (t1 := 1) (t2 := 3) (t3 := 4) (t4 := 5) (t5 := 7) (t6 := 8) (t7 := 9) (t8 := 122) rfl rfl rfl rfl rfl rfl rfl rfl
                clear hM714
                refine wp_cond_false (hM716.ev (t := 122) rfl) ?_
                refine wp_skip ?_
                refine hK501 _ _ ?_
                refine region_then fun K717 QK717 hK717 => ?_
                refine s_val hM716 (.inl rfl) rfl rfl (ev_move (.inl rfl) rfl) (fun a719 hM718 => ?_)
                clear hM716
                refine s_val hM718 (.inl rfl) rfl rfl (ev_move (.inl rfl) rfl) (fun a721 hM720 => ?_)
                clear hM718
                refine s_val hM720 (.inl rfl) rfl rfl (ev_move (.inl rfl) rfl) (fun a723 hM722 => ?_)
                clear hM720
                refine s_val hM722 (.inl rfl) rfl rfl (ev_idx (b := bz) (k := kk) (sz := 1) (p := oz + kk) rfl (by rw [← hAz]; rfl) rfl Try.underlying22 (by kernel_rfl) hlw (by omega)) (fun a725 hM724 => ?_)
                clear hM722
                refine s_val hM724 (.inl rfl) rfl rfl (ev_load1 (v := .int .i64 zz) rfl rfl ((HCZ.out.below HB673.out)).2 (isAgg_no Try.underlying3 rfl)) (fun a727 hM726 => ?_)
                clear hM724
                refine s_val hM726 (.inl rfl) rfl rfl (ev_move (.inl rfl) rfl) (fun a729 hM728 => ?_)
                clear hM726
                refine s_call hM728 (.inl rfl) rfl rfl (f := 20) (args := #[.pointer (some ⟨g, 0, none⟩), .int .i64 zz, .int .i64 1]) (ev_call hM728 rfl rfl rfl (fun w => by simp [go_sem]) _) (book_Sign zz 1 _ ((HBK.out.below HB672.out)).bw.bk (r := 0) (HSG.out.sgr HZK.out)) (fun e w730 hp => ?_)
                obtain ⟨rfl, h1, h2⟩ := hp
                have HBK_ := hide (show BkK w41 G1b w730 g [bs] (sgW W (kk + 1)) from by rw [← sgW_up HZK.out]; exact ((HBK.out.below HB672.out)).sign h1 h2)
                have HI_ := hide (((HI.out.below HB672.out)).chg h2)
                have HW_ := hide (((HW.out.below HB672.out)).chg h2)
                have KB734 := hide (((KB5.out.on HB672.out)).chg h2 HN5.out)
                have HB735 := hide (below_then HNW.out HBK_.out.bw.below)
                clear HB671 HB672 HB673 KB5 HBK HI HW h1 h2
                have HBK := HBK_
                clear HBK_
                have HI := HI_
                clear HI_
                have HW := HW_
                clear HW_
                have HB737 : Hid (Below w730.heap.size w730 w730) := Below.refl _ _
                refine ⟨_, rfl, fun a733 hM732 => ?_⟩
                clear hM728
                refine s_call hM732 (.inl rfl) rfl rfl (f := 19) (args := #[.int .i64 0]) (ev_call hM732 rfl rfl rfl (fun w => by simp [go_sem]) _) (law8_num _ _) (fun e w738 hp => ?_)
                obtain ⟨rfl, rfl⟩ := hp
                refine ⟨_, rfl, fun a741 hM740 => ?_⟩
                clear hM732
                refine s_val hM740 (.inl rfl) rfl rfl (ev_bin rfl rfl rfl g_int (b_neq (b := false) (by decide))) (fun a743 hM742 => ?_)
                clear hM740
                refine seg_nil (hK717 _ _ ?_)
                clear hK717 K717 QK717
                have hM744 := hM742.cut8 (t1 := 1) (t2 := 3) (t3 := 4) (t4 := 5) (t5 := 7) (t6 := 8) (t7 := 9) (t8 := 131) rfl rfl rfl rfl rfl rfl rfl rfl
                clear hM742
                refine wp_cond_false (hM744.ev (t := 131) rfl) ?_
                refine wp_skip ?_
                refine inb_n ?_
                refine hK500 _ _ ?_
                refine region_last fun K745 QK745 hK745 => ?_
                refine s_val hM744 (.inl rfl) rfl rfl (ev_move (.inl rfl) rfl) (fun a747 hM746 => ?_)
                clear hM744
                refine s_val hM746 (.inl rfl) rfl rfl (ev_bin rfl rfl rfl g_int (b_add (r := ((kk + 1 : Nat) : Int)) (by omega) (by have := HNC.out; omega))) (fun a749 hM748 => ?_)
                clear hM746
                refine s_val hM748 (.inl rfl) rfl rfl (ev_move (.inr rfl) rfl) (fun a751 hM750 => ?_)
                clear hM748
                refine seg_nil (hK745 _ _ ?_)
                clear hK745 K745 QK745
                have hM752 := hM750.cut7 (t1 := 1) (t2 := 3) (t3 := 4) (t4 := 5) (t5 := 7) (t6 := 8) (t7 := 9) rfl rfl rfl rfl rfl rfl rfl
                clear hM750
                have hM753 := hM752.cut7 (t1 := 9) (t2 := 1) (t3 := 3) (t4 := 4) (t5 := 5) (t6 := 7) (t7 := 8) rfl rfl rfl rfl rfl rfl rfl
                clear hM752
                exact ⟨nW - (kk + 1), by omega, kk + 1, rfl, hM753, HB735, (hide (HBK.out.below HB737.out)), (hide (HI.out.below HB737.out)), (hide (KB734.out.on HB737.out)), (hide (HW.out.below HB737.out))⟩
          ·
            intro HREST
            refine wp_seq_k fun K754 hK754 => ?_
            obtain ⟨qm, HM⟩ : ∃ q, Hid (mayM 4 (putM [] x) = q) := ⟨_, rfl⟩
            cases qm
            case false =>
              refine region_then fun K755 QK755 hK755 => ?_
              refine s_val hM196 (.inl rfl) rfl rfl (ev_loadm rfl rfl (KB178.out.on HB186.out).rng Try.underlying42 rfl (by rw [HD2.out]; exact Try.infoMsg)) (fun a757 hM756 => ?_)
              clear hM196
              refine s_call hM756 (.inl rfl) rfl rfl (f := 29) (args := #[.agg D2, .int .i64 4]) (ev_call hM756 rfl rfl rfl (fun w => by simp [go_sem]) _) (ref4_Message 4 (putM [] x) u2 _ (hide ((HI.out.below HB184.out)).s) (hide ((HI.out.below HB184.out)).z) HD2 HM) (fun e w758 hp => ?_)
              obtain ⟨rfl, hb759⟩ := hp
              refine ⟨_, rfl, fun a761 hM760 => ?_⟩
              clear hM756
              have HB762 := hide (below_then HB183.out hb759)
              have HB763 := hide (below_then HB184.out hb759)
              have HB764 := hide (below_then HB186.out hb759)
              clear hb759 HB183 HB184 HB186
              refine s_val hM760 (.inl rfl) rfl rfl (ev_not rfl rfl rfl) (fun a766 hM765 => ?_)
              clear hM760
              refine s_val hM765 (.inl rfl) rfl rfl (ev_move (.inl rfl) rfl) (fun a768 hM767 => ?_)
              clear hM765
              refine s_skip hM767 rfl rfl rfl rfl rfl rfl (fun a770 hM769 => ?_)
              clear hM767
              refine s_skip hM769 rfl rfl rfl rfl rfl rfl (fun a772 hM771 => ?_)
              clear hM769
              refine s_skip hM771 rfl rfl rfl rfl rfl rfl (fun a774 hM773 => ?_)
              clear hM771
              refine s_skip hM773 rfl rfl rfl rfl rfl rfl (fun a776 hM775 => ?_)
              clear hM773
              refine s_skipu hM775 rfl rfl rfl rfl rfl (fun a778 hM777 => ?_)
              clear hM775
              refine s_skipu hM777 rfl rfl rfl rfl rfl (fun a780 hM779 => ?_)
              clear hM777
              refine s_skipu hM779 rfl rfl rfl rfl rfl (fun a782 hM781 => ?_)
              clear hM779
              refine s_skip hM781 rfl rfl rfl rfl rfl rfl (fun a784 hM783 => ?_)
              clear hM781
              refine s_skip hM783 rfl rfl rfl rfl rfl rfl (fun a786 hM785 => ?_)
              clear hM783
              refine s_skipu hM785 rfl rfl rfl rfl rfl (fun a788 hM787 => ?_)
              clear hM785
              refine s_skipu hM787 rfl rfl rfl rfl rfl (fun a790 hM789 => ?_)
              clear hM787
              refine s_skipu hM789 rfl rfl rfl rfl rfl (fun a792 hM791 => ?_)
              clear hM789
              refine s_skip hM791 rfl rfl rfl rfl rfl rfl (fun a794 hM793 => ?_)
              clear hM791
              refine s_skip hM793 rfl rfl rfl rfl rfl rfl (fun a796 hM795 => ?_)
              clear hM793
              refine s_skipu hM795 rfl rfl rfl rfl rfl (fun a798 hM797 => ?_)
              clear hM795
              refine s_skipu hM797 rfl rfl rfl rfl rfl (fun a800 hM799 => ?_)
              clear hM797
              refine s_skipu hM799 rfl rfl rfl rfl rfl (fun a802 hM801 => ?_)
              clear hM799
              refine s_skip hM801 rfl rfl rfl rfl rfl rfl (fun a804 hM803 => ?_)
              clear hM801
              refine s_val hM803 (.inl rfl) rfl rfl (ev_pick rfl rfl rfl) (fun a806 hM805 => ?_)
              clear hM803
              refine seg_nil (hK755 _ _ ?_)
              clear hK755 K755 QK755
              have hM807 := hM805.cut5 (t1 := 1) (t2 := 3) (t3 := 4) (t4 := 5) (t5 := 65) rfl rfl rfl rfl rfl
              clear hM805
              refine wp_cond_true (hM807.ev (t := 65) rfl) ?_
              refine wp_exit ?_
              repeat (with_reducible refine th_e ?_)
              refine inb_e ?_
              refine hK109 _ _ ?_
              refine region_last fun K808 QK808 hK808 => ?_
              refine s_val hM807 (.inl rfl) rfl rfl (ev_move (.inl rfl) rfl) (fun a810 hM809 => ?_)
              clear hM807
              refine s_val hM809 (.inl rfl) rfl rfl (ev_bin rfl rfl rfl g_int (b_add (r := ((j + 1 : Nat) : Int)) (by omega) (by omega))) (fun a812 hM811 => ?_)
              clear hM809
              refine s_val hM811 (.inl rfl) rfl rfl (ev_move (.inr rfl) rfl) (fun a814 hM813 => ?_)
              clear hM811
              refine seg_nil (hK808 _ _ ?_)
              clear hK808 K808 QK808
              have hM815 := hM813.cut2 (t1 := 1) (t2 := 3) rfl rfl
              clear hM813
              have hM816 := hM815.cut2 (t1 := 3) (t2 := 1) rfl rfl
              clear hM815
              exact ⟨s.l.n - (j + 1), by omega, j + 1, rfl, hM816, HB762⟩
            case true =>
              have hpk := (putM_same x).1
              obtain hk | hk | hk | hk | hk | hk | hk | hk := okM_kinds (mayM_iff.1 HM.out).2.1
              ·
                have HSG := hide (sgf_13 (.inl (hpk.symm.trans hk)) HM.out)
                have e7 : (putM [] x).d = 1 := by have h := HSG.out.d; rw [digM, if_neg (by rw [hk]; decide)] at h; exact h
                refine region_then fun K817 QK817 hK817 => ?_
                refine s_val hM196 (.inl rfl) rfl rfl (ev_loadm rfl rfl (KB178.out.on HB186.out).rng Try.underlying42 rfl (by rw [HD2.out]; exact Try.infoMsg)) (fun a819 hM818 => ?_)
                clear hM196
                refine s_call hM818 (.inl rfl) rfl rfl (f := 29) (args := #[.agg D2, .int .i64 4]) (ev_call hM818 rfl rfl rfl (fun w => by simp [go_sem]) _) (ref4_Message 4 (putM [] x) u2 _ (hide ((HI.out.below HB184.out)).s) (hide ((HI.out.below HB184.out)).z) HD2 HM) (fun e w820 hp => ?_)
                obtain ⟨rfl, hb821⟩ := hp
                refine ⟨_, rfl, fun a823 hM822 => ?_⟩
                clear hM818
                have HB824 := hide (below_then HB183.out hb821)
                have HB825 := hide (below_then HB184.out hb821)
                have HB826 := hide (below_then HB186.out hb821)
                clear hb821 HB183 HB184 HB186
                refine s_val hM822 (.inl rfl) rfl rfl (ev_not rfl rfl rfl) (fun a828 hM827 => ?_)
                clear hM822
                refine s_val hM827 (.inl rfl) rfl rfl (ev_move (.inl rfl) rfl) (fun a830 hM829 => ?_)
                clear hM827
                refine s_val hM829 (.inr ⟨_, _, _, rfl, rfl, rfl⟩) rfl rfl (ev_fldw (m := 0) rfl rfl (fun w => by simp [go_sem])) (fun a832 hM831 => ?_)
                clear hM829
                refine s_val hM831 (.inr ⟨_, _, _, rfl, rfl, rfl⟩) rfl rfl (ev_load1 (v := .int .i64 ((putM [] x).k)) rfl rfl ((KB178.out.on HB826.out).rng.at_ (m := 0) (by rw [HD2.out]; rfl)) (isAgg_no Try.underlying3 rfl)) (fun a834 hM833 => ?_)
                clear hM831
                refine s_val hM833 (.inr ⟨_, _, _, rfl, rfl, rfl⟩) rfl rfl (ev_bin rfl rfl rfl g_int (b_neq (b := true) (by simp [hk]))) (fun a836 hM835 => ?_)
                clear hM833
                refine s_val hM835 (.inr ⟨_, _, _, rfl, rfl, rfl⟩) rfl rfl (ev_move (.inl rfl) rfl) (fun a838 hM837 => ?_)
                clear hM835
                refine s_val hM837 (.inr ⟨_, _, _, rfl, rfl, rfl⟩) rfl rfl (ev_fldw (m := 0) rfl rfl (fun w => by simp [go_sem])) (fun a840 hM839 => ?_)
                clear hM837
                refine s_val hM839 (.inr ⟨_, _, _, rfl, rfl, rfl⟩) rfl rfl (ev_load1 (v := .int .i64 ((putM [] x).k)) rfl rfl ((KB178.out.on HB826.out).rng.at_ (m := 0) (by rw [HD2.out]; rfl)) (isAgg_no Try.underlying3 rfl)) (fun a842 hM841 => ?_)
                clear hM839
                refine s_val hM841 (.inr ⟨_, _, _, rfl, rfl, rfl⟩) rfl rfl (ev_bin rfl rfl rfl g_int (b_neq (b := true) (by simp [hk]))) (fun a844 hM843 => ?_)
                clear hM841
                refine s_val hM843 (.inr ⟨_, _, _, rfl, rfl, rfl⟩) rfl rfl (ev_pick rfl rfl rfl) (fun a846 hM845 => ?_)
                clear hM843
                refine s_val hM845 (.inr ⟨_, _, _, rfl, rfl, rfl⟩) rfl rfl (ev_move (.inl rfl) rfl) (fun a848 hM847 => ?_)
                clear hM845
                refine s_val hM847 (.inr ⟨_, _, _, rfl, rfl, rfl⟩) rfl rfl (ev_fldw (m := 0) rfl rfl (fun w => by simp [go_sem])) (fun a850 hM849 => ?_)
                clear hM847
                refine s_val hM849 (.inr ⟨_, _, _, rfl, rfl, rfl⟩) rfl rfl (ev_load1 (v := .int .i64 ((putM [] x).k)) rfl rfl ((KB178.out.on HB826.out).rng.at_ (m := 0) (by rw [HD2.out]; rfl)) (isAgg_no Try.underlying3 rfl)) (fun a852 hM851 => ?_)
                clear hM849
                refine s_val hM851 (.inr ⟨_, _, _, rfl, rfl, rfl⟩) rfl rfl (ev_bin rfl rfl rfl g_int (b_neq (b := false) (by simp [hk]))) (fun a854 hM853 => ?_)
                clear hM851
                refine s_val hM853 (.inr ⟨_, _, _, rfl, rfl, rfl⟩) rfl rfl (ev_pick rfl rfl rfl) (fun a856 hM855 => ?_)
                clear hM853
                refine s_val hM855 (.inr ⟨_, _, _, rfl, rfl, rfl⟩) rfl rfl (ev_move (.inl rfl) rfl) (fun a858 hM857 => ?_)
                clear hM855
                refine s_skip hM857 rfl rfl rfl rfl rfl rfl (fun a860 hM859 => ?_)
                clear hM857
                refine s_skip hM859 rfl rfl rfl rfl rfl rfl (fun a862 hM861 => ?_)
                clear hM859
                refine s_skip hM861 rfl rfl rfl rfl rfl rfl (fun a864 hM863 => ?_)
                clear hM861
                refine s_val hM863 (.inr ⟨_, _, _, rfl, rfl, rfl⟩) rfl rfl (ev_pick rfl rfl rfl) (fun a866 hM865 => ?_)
                clear hM863
                refine s_val hM865 (.inl rfl) rfl rfl (ev_pick rfl rfl rfl) (fun a868 hM867 => ?_)
                clear hM865
                refine seg_nil (hK817 _ _ ?_)
                clear hK817 K817 QK817
                have hM869 := hM867.cut5 (t1 := 1) (t2 := 3) (t3 := 4) (t4 := 5) (t5 := 65) rfl rfl rfl rfl rfl
                clear hM867
                refine wp_cond_false (hM869.ev (t := 65) rfl) ?_
                refine wp_skip ?_
                refine hK754 _ _ ?_
                refine h_open 7 rfl (by kernel_rfl) fun K870 w871 hb872 hK870 => ?_
                have HB873 := hide (below_then HB824.out hb872)
                have HB874 := hide (below_then HB825.out hb872)
                have HB875 := hide (below_then HB826.out hb872)
                clear hb872 HB824 HB825 HB826
                have hS876 : Below w871.heap.size w871 w871 := Below.refl _ _
                refine h_val 0 rfl (by kernel_rfl) (by kernel_rfl) (by kernel_rfl) hM869 (.inl rfl) rfl rfl hS876 (fun w' hr => (ev_fldw (m := 3) rfl rfl (fun w => by simp [go_sem]))) (fun a878 hM877 => ?_)
                clear hM869
                refine h_val 1 rfl (by kernel_rfl) (by kernel_rfl) (by kernel_rfl) hM877 (.inl rfl) rfl rfl hS876 (fun w' hr => (ev_load1 (v := .int .i64 ((putM [] x).d)) rfl rfl (((KB178.out.on HB875.out).on hr).rng.at_ (m := 3) (by rw [HD2.out]; rfl)) (isAgg_no Try.underlying3 rfl))) (fun a880 hM879 => ?_)
                clear hM877
                refine h_val 2 rfl (by kernel_rfl) (by kernel_rfl) (by kernel_rfl) hM879 (.inl rfl) rfl rfl hS876 (fun w' hr => (ev_fldw (m := 1) rfl rfl (fun w => by simp [go_sem]))) (fun a882 hM881 => ?_)
                clear hM879
                refine h_val 3 rfl (by kernel_rfl) (by kernel_rfl) (by kernel_rfl) hM881 (.inl rfl) rfl rfl hS876 (fun w' hr => (ev_load1 (v := .int .i64 ((putM [] x).f)) rfl rfl (((KB178.out.on HB875.out).on hr).rng.at_ (m := 1) (by rw [HD2.out]; rfl)) (isAgg_no Try.underlying3 rfl))) (fun a884 hM883 => ?_)
                clear hM881
                refine h_val 5 rfl (by kernel_rfl) (by kernel_rfl) (by kernel_rfl) hM883 (.inl rfl) rfl rfl hS876 (fun w' hr => (ev_move (.inr rfl) rfl)) (fun a886 hM885 => ?_)
                clear hM883
                refine h_alloc (e := 3) 4 rfl (by kernel_rfl) hM885 (.inl rfl) rfl rfl (V := fun g => .slice (some ⟨g, 0, none⟩) 1 1) (ev_bsl hM885 rfl rfl (fun w => by kernel_rfl)) (fun g887 a893 w888 hM892 KB891_ hb889 hg890 => ⟨s_in hS876 hb889, ?_⟩)
                have lo895 := hide (Nat.le_trans HB873.out.size hg890)
                have lo896 := hide (Nat.le_trans HB874.out.size hg890)
                have lo897 := hide (Nat.le_trans HB875.out.size hg890)
                have KB891 := hide KB891_
                have hS894 := s_in hS876 hb889
                clear hM885 KB891_ hg890
                have HB898 := hide (below_then HB873.out hb889)
                have HB899 := hide (below_then HB874.out hb889)
                have HB900 := hide (below_then HB875.out hb889)
                clear hb889
                have HB902 : Hid (Below w888.heap.size w888 w888) := Below.refl _ _
                have HN1 := hide (Sl.one_ KB891.out)
                have HNA : Hid (¬ G1b g887) := fun h => by have h1 := HBK.out.bw.bk.lt _ h; have h2 := lo896.out; omega
                refine h_val 6 rfl (by kernel_rfl) (by kernel_rfl) (by kernel_rfl) hM892 (.inl rfl) rfl rfl hS894 (fun w' hr => (ev_move (.inr rfl) rfl)) (fun a904 hM903 => ?_)
                clear hM892
                refine h_nil (by kernel_rfl) (hK870 _ _ ?_)
                clear hK870 K870 hS894 HB873 HB874 HB875
                have hM905 := hM903.cut6 (t1 := 1) (t2 := 3) (t3 := 4) (t4 := 5) (t5 := 7) (t6 := 8) rfl rfl rfl rfl rfl rfl
                clear hM903
                refine wp_seq_join _ ?_ HREST
                refine region_then fun K906 QK906 hK906 => ?_
                refine s_val hM905 (.inl rfl) rfl rfl (ev_fldw (m := 0) rfl rfl (fun w => by simp [go_sem])) (fun a908 hM907 => ?_)
                clear hM905
                refine s_val hM907 (.inl rfl) rfl rfl (ev_load1 (v := .int .i64 ((putM [] x).k)) rfl rfl ((KB178.out.on HB900.out).rng.at_ (m := 0) (by rw [HD2.out]; rfl)) (isAgg_no Try.underlying3 rfl)) (fun a910 hM909 => ?_)
                clear hM907
                refine s_val hM909 (.inl rfl) rfl rfl (ev_bin rfl rfl rfl g_int (b_eql (b := false) (by simp [hk]))) (fun a912 hM911 => ?_)
                clear hM909
                refine seg_nil (hK906 _ _ ?_)
                clear hK906 K906 QK906
                have hM913 := hM911.cut7 (t1 := 1) (t2 := 3) (t3 := 4) (t4 := 5) (t5 := 7) (t6 := 8) (t7 := 73) rfl rfl rfl rfl rfl rfl rfl
                clear hM911
                refine wp_cond_false (hM913.ev (t := 73) rfl) ?_
                refine region_then fun K914 QK914 hK914 => ?_
                refine s_val hM913 (.inl rfl) rfl rfl (ev_fldw (m := 0) rfl rfl (fun w => by simp [go_sem])) (fun a916 hM915 => ?_)
                clear hM913
                refine s_val hM915 (.inl rfl) rfl rfl (ev_load1 (v := .int .i64 ((putM [] x).k)) rfl rfl ((KB178.out.on HB900.out).rng.at_ (m := 0) (by rw [HD2.out]; rfl)) (isAgg_no Try.underlying3 rfl)) (fun a918 hM917 => ?_)
                clear hM915
                refine s_val hM917 (.inl rfl) rfl rfl (ev_bin rfl rfl rfl g_int (b_neq (b := true) (by simp [hk]))) (fun a920 hM919 => ?_)
                clear hM917
                refine seg_nil (hK914 _ _ ?_)
                clear hK914 K914 QK914
                have hM921 := hM919.cut7 (t1 := 1) (t2 := 3) (t3 := 4) (t4 := 5) (t5 := 7) (t6 := 8) (t7 := 82) rfl rfl rfl rfl rfl rfl rfl
                clear hM919
                refine wp_cond_true (hM921.ev (t := 82) rfl) ?_
                refine region_last fun K922 QK922 hK922 => ?_
                refine s_val hM921 (.inl rfl) rfl rfl (ev_fldw (m := 4) rfl rfl (fun w => by simp [go_sem])) (fun a924 hM923 => ?_)
                clear hM921
                refine s_val hM923 (.inl rfl) rfl rfl (ev_fldw (m := 4) rfl rfl (fun w => by simp [go_sem])) (fun a926 hM925 => ?_)
                clear hM923
                refine s_val hM925 (.inl rfl) rfl rfl (ev_load1 (v := .int .i64 ((putM [] x).b.a)) rfl rfl ((KB178.out.on HB900.out).rng.at_ (m := 4) (by rw [HD2.out]; rfl)) (isAgg_no Try.underlying3 rfl)) (fun a928 hM927 => ?_)
                clear hM925
                refine s_alloc (e := 3) hM927 (.inl rfl) rfl rfl (V := fun g => .slice (some ⟨g, 0, none⟩) 1 1) (ev_bsl hM927 rfl rfl (fun w => by kernel_rfl)) (fun g929 a935 w930 hM934 KB933_ hb931 hg932 => ?_)
                have KB933 := hide KB933_
                clear hM927 KB933_
                have lo936 := hide (Nat.le_trans HB898.out.size hg932)
                have lo937 := hide (Nat.le_trans HB899.out.size hg932)
                have lo938 := hide (Nat.le_trans HB900.out.size hg932)
                have lo939 := hide (Nat.le_trans HB902.out.size hg932)
                clear hg932
                have HB940 := hide (below_then HB898.out hb931)
                have HB941 := hide (below_then HB899.out hb931)
                have HB942 := hide (below_then HB900.out hb931)
                have HB943 := hide (below_then HB902.out hb931)
                clear hb931 HB898 HB899 HB900 HB902
                have HB945 : Hid (Below w930.heap.size w930 w930) := Below.refl _ _
                have HN1 := hide (Sl.one_ KB933.out)
                have HNA : Hid (¬ G1b g929) := fun h => by have h1 := HBK.out.bw.bk.lt _ h; have h2 := lo937.out; omega
                refine s_val hM934 (.inl rfl) rfl rfl (ev_move (.inr rfl) rfl) (fun a947 hM946 => ?_)
                clear hM934
                refine seg_nil (hK922 _ _ ?_)
                clear hK922 K922 QK922
                have hM948 := hM946.cut6 (t1 := 1) (t2 := 3) (t3 := 4) (t4 := 5) (t5 := 7) (t6 := 8) rfl rfl rfl rfl rfl rfl
                clear hM946
                rw [e7] at hM948
                have hM949 := hM948.cut6 (t1 := 1) (t2 := 3) (t3 := 4) (t4 := 5) (t5 := 7) (t6 := 8) rfl rfl rfl rfl rfl rfl
                clear hM948
                have hL := HSG.out.L
                have hBK := (HBK.out.below HB941.out)
                rw [hL, ← sgW_0 ([x.b.a])] at hBK
                have hW : SlK G1b w930 (some ⟨g929, 0, none⟩) 1 (ints [x.b.a]) := SlK.one (by have h := (HN1.out.below HB945.out); rw [show (putM [] x).b.a = x.b.a from congrArg BtD.a (putM_same x).2.2.1] at h; exact h) HNA.out
                have hnc : Hid (1 ≤ 1000000000000 ∧ 1 ≤ 1) := ⟨by omega, Nat.le_refl _⟩
                exact th_n ⟨batchB x.b.a x.b.n x.b.l, [x.b.a], _, _, _, hM949, HB940, hide hBK, (hide (HI.out.below HB941.out)), hide (KB178.out.on HB942.out), hide hW, HSG, hnc⟩
              ·
                refine region_then fun K950 QK950 hK950 => ?_
                refine s_val hM196 (.inl rfl) rfl rfl (ev_loadm rfl rfl (KB178.out.on HB186.out).rng Try.underlying42 rfl (by rw [HD2.out]; exact Try.infoMsg)) (fun a952 hM951 => ?_)
                clear hM196
                refine s_call hM951 (.inl rfl) rfl rfl (f := 29) (args := #[.agg D2, .int .i64 4]) (ev_call hM951 rfl rfl rfl (fun w => by simp [go_sem]) _) (ref4_Message 4 (putM [] x) u2 _ (hide ((HI.out.below HB184.out)).s) (hide ((HI.out.below HB184.out)).z) HD2 HM) (fun e w953 hp => ?_)
                obtain ⟨rfl, hb954⟩ := hp
                refine ⟨_, rfl, fun a956 hM955 => ?_⟩
                clear hM951
                have HB957 := hide (below_then HB183.out hb954)
                have HB958 := hide (below_then HB184.out hb954)
                have HB959 := hide (below_then HB186.out hb954)
                clear hb954 HB183 HB184 HB186
                refine s_val hM955 (.inl rfl) rfl rfl (ev_not rfl rfl rfl) (fun a961 hM960 => ?_)
                clear hM955
                refine s_val hM960 (.inl rfl) rfl rfl (ev_move (.inl rfl) rfl) (fun a963 hM962 => ?_)
                clear hM960
                refine s_val hM962 (.inr ⟨_, _, _, rfl, rfl, rfl⟩) rfl rfl (ev_fldw (m := 0) rfl rfl (fun w => by simp [go_sem])) (fun a965 hM964 => ?_)
                clear hM962
                refine s_val hM964 (.inr ⟨_, _, _, rfl, rfl, rfl⟩) rfl rfl (ev_load1 (v := .int .i64 ((putM [] x).k)) rfl rfl ((KB178.out.on HB959.out).rng.at_ (m := 0) (by rw [HD2.out]; rfl)) (isAgg_no Try.underlying3 rfl)) (fun a967 hM966 => ?_)
                clear hM964
                refine s_val hM966 (.inr ⟨_, _, _, rfl, rfl, rfl⟩) rfl rfl (ev_bin rfl rfl rfl g_int (b_neq (b := true) (by simp [hk]))) (fun a969 hM968 => ?_)
                clear hM966
                refine s_val hM968 (.inr ⟨_, _, _, rfl, rfl, rfl⟩) rfl rfl (ev_move (.inl rfl) rfl) (fun a971 hM970 => ?_)
                clear hM968
                refine s_val hM970 (.inr ⟨_, _, _, rfl, rfl, rfl⟩) rfl rfl (ev_fldw (m := 0) rfl rfl (fun w => by simp [go_sem])) (fun a973 hM972 => ?_)
                clear hM970
                refine s_val hM972 (.inr ⟨_, _, _, rfl, rfl, rfl⟩) rfl rfl (ev_load1 (v := .int .i64 ((putM [] x).k)) rfl rfl ((KB178.out.on HB959.out).rng.at_ (m := 0) (by rw [HD2.out]; rfl)) (isAgg_no Try.underlying3 rfl)) (fun a975 hM974 => ?_)
                clear hM972
                refine s_val hM974 (.inr ⟨_, _, _, rfl, rfl, rfl⟩) rfl rfl (ev_bin rfl rfl rfl g_int (b_neq (b := true) (by simp [hk]))) (fun a977 hM976 => ?_)
                clear hM974
                refine s_val hM976 (.inr ⟨_, _, _, rfl, rfl, rfl⟩) rfl rfl (ev_pick rfl rfl rfl) (fun a979 hM978 => ?_)
                clear hM976
                refine s_val hM978 (.inr ⟨_, _, _, rfl, rfl, rfl⟩) rfl rfl (ev_move (.inl rfl) rfl) (fun a981 hM980 => ?_)
                clear hM978
                refine s_val hM980 (.inr ⟨_, _, _, rfl, rfl, rfl⟩) rfl rfl (ev_fldw (m := 0) rfl rfl (fun w => by simp [go_sem])) (fun a983 hM982 => ?_)
                clear hM980
                refine s_val hM982 (.inr ⟨_, _, _, rfl, rfl, rfl⟩) rfl rfl (ev_load1 (v := .int .i64 ((putM [] x).k)) rfl rfl ((KB178.out.on HB959.out).rng.at_ (m := 0) (by rw [HD2.out]; rfl)) (isAgg_no Try.underlying3 rfl)) (fun a985 hM984 => ?_)
                clear hM982
                refine s_val hM984 (.inr ⟨_, _, _, rfl, rfl, rfl⟩) rfl rfl (ev_bin rfl rfl rfl g_int (b_neq (b := true) (by simp [hk]))) (fun a987 hM986 => ?_)
                clear hM984
                refine s_val hM986 (.inr ⟨_, _, _, rfl, rfl, rfl⟩) rfl rfl (ev_pick rfl rfl rfl) (fun a989 hM988 => ?_)
                clear hM986
                refine s_val hM988 (.inr ⟨_, _, _, rfl, rfl, rfl⟩) rfl rfl (ev_move (.inl rfl) rfl) (fun a991 hM990 => ?_)
                clear hM988
                refine s_val hM990 (.inr ⟨_, _, _, rfl, rfl, rfl⟩) rfl rfl (ev_fldw (m := 0) rfl rfl (fun w => by simp [go_sem])) (fun a993 hM992 => ?_)
                clear hM990
                refine s_val hM992 (.inr ⟨_, _, _, rfl, rfl, rfl⟩) rfl rfl (ev_load1 (v := .int .i64 ((putM [] x).k)) rfl rfl ((KB178.out.on HB959.out).rng.at_ (m := 0) (by rw [HD2.out]; rfl)) (isAgg_no Try.underlying3 rfl)) (fun a995 hM994 => ?_)
                clear hM992
                refine s_val hM994 (.inr ⟨_, _, _, rfl, rfl, rfl⟩) rfl rfl (ev_bin rfl rfl rfl g_int (b_neq (b := true) (by simp [hk]))) (fun a997 hM996 => ?_)
                clear hM994
                refine s_val hM996 (.inr ⟨_, _, _, rfl, rfl, rfl⟩) rfl rfl (ev_pick rfl rfl rfl) (fun a999 hM998 => ?_)
                clear hM996
                refine s_val hM998 (.inl rfl) rfl rfl (ev_pick rfl rfl rfl) (fun a1001 hM1000 => ?_)
                clear hM998
                refine seg_nil (hK950 _ _ ?_)
                clear hK950 K950 QK950
                have hM1002 := hM1000.cut5 (t1 := 1) (t2 := 3) (t3 := 4) (t4 := 5) (t5 := 65) rfl rfl rfl rfl rfl
                clear hM1000
                refine wp_cond_true (hM1002.ev (t := 65) rfl) ?_
                refine wp_exit ?_
                repeat (with_reducible refine th_e ?_)
                refine inb_e ?_
                refine hK109 _ _ ?_
                refine region_last fun K1003 QK1003 hK1003 => ?_
                refine s_val hM1002 (.inl rfl) rfl rfl (ev_move (.inl rfl) rfl) (fun a1005 hM1004 => ?_)
                clear hM1002
                refine s_val hM1004 (.inl rfl) rfl rfl (ev_bin rfl rfl rfl g_int (b_add (r := ((j + 1 : Nat) : Int)) (by omega) (by omega))) (fun a1007 hM1006 => ?_)
                clear hM1004
                refine s_val hM1006 (.inl rfl) rfl rfl (ev_move (.inr rfl) rfl) (fun a1009 hM1008 => ?_)
                clear hM1006
                refine seg_nil (hK1003 _ _ ?_)
                clear hK1003 K1003 QK1003
                have hM1010 := hM1008.cut2 (t1 := 1) (t2 := 3) rfl rfl
                clear hM1008
                have hM1011 := hM1010.cut2 (t1 := 3) (t2 := 1) rfl rfl
                clear hM1010
                exact ⟨s.l.n - (j + 1), by omega, j + 1, rfl, hM1011, HB957⟩
              ·
                have HSG := hide (sgf_13 (.inr (hpk.symm.trans hk)) HM.out)
                have e7 : (putM [] x).d = 1 := by have h := HSG.out.d; rw [digM, if_neg (by rw [hk]; decide)] at h; exact h
                refine region_then fun K1012 QK1012 hK1012 => ?_
                refine s_val hM196 (.inl rfl) rfl rfl (ev_loadm rfl rfl (KB178.out.on HB186.out).rng Try.underlying42 rfl (by rw [HD2.out]; exact Try.infoMsg)) (fun a1014 hM1013 => ?_)
                clear hM196
                refine s_call hM1013 (.inl rfl) rfl rfl (f := 29) (args := #[.agg D2, .int .i64 4]) (ev_call hM1013 rfl rfl rfl (fun w => by simp [go_sem]) _) (ref4_Message 4 (putM [] x) u2 _ (hide ((HI.out.below HB184.out)).s) (hide ((HI.out.below HB184.out)).z) HD2 HM) (fun e w1015 hp => ?_)
                obtain ⟨rfl, hb1016⟩ := hp
                refine ⟨_, rfl, fun a1018 hM1017 => ?_⟩
                clear hM1013
                have HB1019 := hide (below_then HB183.out hb1016)
                have HB1020 := hide (below_then HB184.out hb1016)
                have HB1021 := hide (below_then HB186.out hb1016)
                clear hb1016 HB183 HB184 HB186
                refine s_val hM1017 (.inl rfl) rfl rfl (ev_not rfl rfl rfl) (fun a1023 hM1022 => ?_)
                clear hM1017
                refine s_val hM1022 (.inl rfl) rfl rfl (ev_move (.inl rfl) rfl) (fun a1025 hM1024 => ?_)
                clear hM1022
                refine s_val hM1024 (.inr ⟨_, _, _, rfl, rfl, rfl⟩) rfl rfl (ev_fldw (m := 0) rfl rfl (fun w => by simp [go_sem])) (fun a1027 hM1026 => ?_)
                clear hM1024
                refine s_val hM1026 (.inr ⟨_, _, _, rfl, rfl, rfl⟩) rfl rfl (ev_load1 (v := .int .i64 ((putM [] x).k)) rfl rfl ((KB178.out.on HB1021.out).rng.at_ (m := 0) (by rw [HD2.out]; rfl)) (isAgg_no Try.underlying3 rfl)) (fun a1029 hM1028 => ?_)
                clear hM1026
                refine s_val hM1028 (.inr ⟨_, _, _, rfl, rfl, rfl⟩) rfl rfl (ev_bin rfl rfl rfl g_int (b_neq (b := true) (by simp [hk]))) (fun a1031 hM1030 => ?_)
                clear hM1028
                refine s_val hM1030 (.inr ⟨_, _, _, rfl, rfl, rfl⟩) rfl rfl (ev_move (.inl rfl) rfl) (fun a1033 hM1032 => ?_)
                clear hM1030
                refine s_val hM1032 (.inr ⟨_, _, _, rfl, rfl, rfl⟩) rfl rfl (ev_fldw (m := 0) rfl rfl (fun w => by simp [go_sem])) (fun a1035 hM1034 => ?_)
                clear hM1032
                refine s_val hM1034 (.inr ⟨_, _, _, rfl, rfl, rfl⟩) rfl rfl (ev_load1 (v := .int .i64 ((putM [] x).k)) rfl rfl ((KB178.out.on HB1021.out).rng.at_ (m := 0) (by rw [HD2.out]; rfl)) (isAgg_no Try.underlying3 rfl)) (fun a1037 hM1036 => ?_)
                clear hM1034
                refine s_val hM1036 (.inr ⟨_, _, _, rfl, rfl, rfl⟩) rfl rfl (ev_bin rfl rfl rfl g_int (b_neq (b := true) (by simp [hk]))) (fun a1039 hM1038 => ?_)
                clear hM1036
                refine s_val hM1038 (.inr ⟨_, _, _, rfl, rfl, rfl⟩) rfl rfl (ev_pick rfl rfl rfl) (fun a1041 hM1040 => ?_)
                clear hM1038
                refine s_val hM1040 (.inr ⟨_, _, _, rfl, rfl, rfl⟩) rfl rfl (ev_move (.inl rfl) rfl) (fun a1043 hM1042 => ?_)
                clear hM1040
                refine s_val hM1042 (.inr ⟨_, _, _, rfl, rfl, rfl⟩) rfl rfl (ev_fldw (m := 0) rfl rfl (fun w => by simp [go_sem])) (fun a1045 hM1044 => ?_)
                clear hM1042
                refine s_val hM1044 (.inr ⟨_, _, _, rfl, rfl, rfl⟩) rfl rfl (ev_load1 (v := .int .i64 ((putM [] x).k)) rfl rfl ((KB178.out.on HB1021.out).rng.at_ (m := 0) (by rw [HD2.out]; rfl)) (isAgg_no Try.underlying3 rfl)) (fun a1047 hM1046 => ?_)
                clear hM1044
                refine s_val hM1046 (.inr ⟨_, _, _, rfl, rfl, rfl⟩) rfl rfl (ev_bin rfl rfl rfl g_int (b_neq (b := true) (by simp [hk]))) (fun a1049 hM1048 => ?_)
                clear hM1046
                refine s_val hM1048 (.inr ⟨_, _, _, rfl, rfl, rfl⟩) rfl rfl (ev_pick rfl rfl rfl) (fun a1051 hM1050 => ?_)
                clear hM1048
                refine s_val hM1050 (.inr ⟨_, _, _, rfl, rfl, rfl⟩) rfl rfl (ev_move (.inl rfl) rfl) (fun a1053 hM1052 => ?_)
                clear hM1050
                refine s_val hM1052 (.inr ⟨_, _, _, rfl, rfl, rfl⟩) rfl rfl (ev_fldw (m := 0) rfl rfl (fun w => by simp [go_sem])) (fun a1055 hM1054 => ?_)
                clear hM1052
                refine s_val hM1054 (.inr ⟨_, _, _, rfl, rfl, rfl⟩) rfl rfl (ev_load1 (v := .int .i64 ((putM [] x).k)) rfl rfl ((KB178.out.on HB1021.out).rng.at_ (m := 0) (by rw [HD2.out]; rfl)) (isAgg_no Try.underlying3 rfl)) (fun a1057 hM1056 => ?_)
                clear hM1054
                refine s_val hM1056 (.inr ⟨_, _, _, rfl, rfl, rfl⟩) rfl rfl (ev_bin rfl rfl rfl g_int (b_neq (b := false) (by simp [hk]))) (fun a1059 hM1058 => ?_)
                clear hM1056
                refine s_val hM1058 (.inr ⟨_, _, _, rfl, rfl, rfl⟩) rfl rfl (ev_pick rfl rfl rfl) (fun a1061 hM1060 => ?_)
                clear hM1058
                refine s_val hM1060 (.inl rfl) rfl rfl (ev_pick rfl rfl rfl) (fun a1063 hM1062 => ?_)
                clear hM1060
                refine seg_nil (hK1012 _ _ ?_)
                clear hK1012 K1012 QK1012
                have hM1064 := hM1062.cut5 (t1 := 1) (t2 := 3) (t3 := 4) (t4 := 5) (t5 := 65) rfl rfl rfl rfl rfl
                clear hM1062
                refine wp_cond_false (hM1064.ev (t := 65) rfl) ?_
                refine wp_skip ?_
                refine hK754 _ _ ?_
                refine h_open 7 rfl (by kernel_rfl) fun K1065 w1066 hb1067 hK1065 => ?_
                have HB1068 := hide (below_then HB1019.out hb1067)
                have HB1069 := hide (below_then HB1020.out hb1067)
                have HB1070 := hide (below_then HB1021.out hb1067)
                clear hb1067 HB1019 HB1020 HB1021
                have hS1071 : Below w1066.heap.size w1066 w1066 := Below.refl _ _
                refine h_val 0 rfl (by kernel_rfl) (by kernel_rfl) (by kernel_rfl) hM1064 (.inl rfl) rfl rfl hS1071 (fun w' hr => (ev_fldw (m := 3) rfl rfl (fun w => by simp [go_sem]))) (fun a1073 hM1072 => ?_)
                clear hM1064
                refine h_val 1 rfl (by kernel_rfl) (by kernel_rfl) (by kernel_rfl) hM1072 (.inl rfl) rfl rfl hS1071 (fun w' hr => (ev_load1 (v := .int .i64 ((putM [] x).d)) rfl rfl (((KB178.out.on HB1070.out).on hr).rng.at_ (m := 3) (by rw [HD2.out]; rfl)) (isAgg_no Try.underlying3 rfl))) (fun a1075 hM1074 => ?_)
                clear hM1072
                refine h_val 2 rfl (by kernel_rfl) (by kernel_rfl) (by kernel_rfl) hM1074 (.inl rfl) rfl rfl hS1071 (fun w' hr => (ev_fldw (m := 1) rfl rfl (fun w => by simp [go_sem]))) (fun a1077 hM1076 => ?_)
                clear hM1074
                refine h_val 3 rfl (by kernel_rfl) (by kernel_rfl) (by kernel_rfl) hM1076 (.inl rfl) rfl rfl hS1071 (fun w' hr => (ev_load1 (v := .int .i64 ((putM [] x).f)) rfl rfl (((KB178.out.on HB1070.out).on hr).rng.at_ (m := 1) (by rw [HD2.out]; rfl)) (isAgg_no Try.underlying3 rfl))) (fun a1079 hM1078 => ?_)
                clear hM1076
                refine h_val 5 rfl (by kernel_rfl) (by kernel_rfl) (by kernel_rfl) hM1078 (.inl rfl) rfl rfl hS1071 (fun w' hr => (ev_move (.inr rfl) rfl)) (fun a1081 hM1080 => ?_)
                clear hM1078
                refine h_alloc (e := 3) 4 rfl (by kernel_rfl) hM1080 (.inl rfl) rfl rfl (V := fun g => .slice (some ⟨g, 0, none⟩) 1 1) (ev_bsl hM1080 rfl rfl (fun w => by kernel_rfl)) (fun g1082 a1088 w1083 hM1087 KB1086_ hb1084 hg1085 => ⟨s_in hS1071 hb1084, ?_⟩)
                have lo1090 := hide (Nat.le_trans HB1068.out.size hg1085)
                have lo1091 := hide (Nat.le_trans HB1069.out.size hg1085)
                have lo1092 := hide (Nat.le_trans HB1070.out.size hg1085)
                have KB1086 := hide KB1086_
                have hS1089 := s_in hS1071 hb1084
                clear hM1080 KB1086_ hg1085
                have HB1093 := hide (below_then HB1068.out hb1084)
                have HB1094 := hide (below_then HB1069.out hb1084)
                have HB1095 := hide (below_then HB1070.out hb1084)
                clear hb1084
                have HB1097 : Hid (Below w1083.heap.size w1083 w1083) := Below.refl _ _
                have HN1 := hide (Sl.one_ KB1086.out)
                have HNA : Hid (¬ G1b g1082) := fun h => by have h1 := HBK.out.bw.bk.lt _ h; have h2 := lo1091.out; omega
                refine h_val 6 rfl (by kernel_rfl) (by kernel_rfl) (by kernel_rfl) hM1087 (.inl rfl) rfl rfl hS1089 (fun w' hr => (ev_move (.inr rfl) rfl)) (fun a1099 hM1098 => ?_)
                clear hM1087
                refine h_nil (by kernel_rfl) (hK1065 _ _ ?_)
                clear hK1065 K1065 hS1089 HB1068 HB1069 HB1070
                have hM1100 := hM1098.cut6 (t1 := 1) (t2 := 3) (t3 := 4) (t4 := 5) (t5 := 7) (t6 := 8) rfl rfl rfl rfl rfl rfl
                clear hM1098
                refine wp_seq_join _ ?_ HREST
                refine region_then fun K1101 QK1101 hK1101 => ?_
                refine s_val hM1100 (.inl rfl) rfl rfl (ev_fldw (m := 0) rfl rfl (fun w => by simp [go_sem])) (fun a1103 hM1102 => ?_)
                clear hM1100
                refine s_val hM1102 (.inl rfl) rfl rfl (ev_load1 (v := .int .i64 ((putM [] x).k)) rfl rfl ((KB178.out.on HB1095.out).rng.at_ (m := 0) (by rw [HD2.out]; rfl)) (isAgg_no Try.underlying3 rfl)) (fun a1105 hM1104 => ?_)
                clear hM1102
                refine s_val hM1104 (.inl rfl) rfl rfl (ev_bin rfl rfl rfl g_int (b_eql (b := false) (by simp [hk]))) (fun a1107 hM1106 => ?_)
                clear hM1104
                refine seg_nil (hK1101 _ _ ?_)
                clear hK1101 K1101 QK1101
                have hM1108 := hM1106.cut7 (t1 := 1) (t2 := 3) (t3 := 4) (t4 := 5) (t5 := 7) (t6 := 8) (t7 := 73) rfl rfl rfl rfl rfl rfl rfl
                clear hM1106
                refine wp_cond_false (hM1108.ev (t := 73) rfl) ?_
                refine region_then fun K1109 QK1109 hK1109 => ?_
                refine s_val hM1108 (.inl rfl) rfl rfl (ev_fldw (m := 0) rfl rfl (fun w => by simp [go_sem])) (fun a1111 hM1110 => ?_)
                clear hM1108
                refine s_val hM1110 (.inl rfl) rfl rfl (ev_load1 (v := .int .i64 ((putM [] x).k)) rfl rfl ((KB178.out.on HB1095.out).rng.at_ (m := 0) (by rw [HD2.out]; rfl)) (isAgg_no Try.underlying3 rfl)) (fun a1113 hM1112 => ?_)
                clear hM1110
                refine s_val hM1112 (.inl rfl) rfl rfl (ev_bin rfl rfl rfl g_int (b_neq (b := true) (by simp [hk]))) (fun a1115 hM1114 => ?_)
                clear hM1112
                refine seg_nil (hK1109 _ _ ?_)
                clear hK1109 K1109 QK1109
                have hM1116 := hM1114.cut7 (t1 := 1) (t2 := 3) (t3 := 4) (t4 := 5) (t5 := 7) (t6 := 8) (t7 := 82) rfl rfl rfl rfl rfl rfl rfl
                clear hM1114
                refine wp_cond_true (hM1116.ev (t := 82) rfl) ?_
                refine region_last fun K1117 QK1117 hK1117 => ?_
                refine s_val hM1116 (.inl rfl) rfl rfl (ev_fldw (m := 4) rfl rfl (fun w => by simp [go_sem])) (fun a1119 hM1118 => ?_)
                clear hM1116
                refine s_val hM1118 (.inl rfl) rfl rfl (ev_fldw (m := 4) rfl rfl (fun w => by simp [go_sem])) (fun a1121 hM1120 => ?_)
                clear hM1118
                refine s_val hM1120 (.inl rfl) rfl rfl (ev_load1 (v := .int .i64 ((putM [] x).b.a)) rfl rfl ((KB178.out.on HB1095.out).rng.at_ (m := 4) (by rw [HD2.out]; rfl)) (isAgg_no Try.underlying3 rfl)) (fun a1123 hM1122 => ?_)
                clear hM1120
                refine s_alloc (e := 3) hM1122 (.inl rfl) rfl rfl (V := fun g => .slice (some ⟨g, 0, none⟩) 1 1) (ev_bsl hM1122 rfl rfl (fun w => by kernel_rfl)) (fun g1124 a1130 w1125 hM1129 KB1128_ hb1126 hg1127 => ?_)
                have KB1128 := hide KB1128_
                clear hM1122 KB1128_
                have lo1131 := hide (Nat.le_trans HB1093.out.size hg1127)
                have lo1132 := hide (Nat.le_trans HB1094.out.size hg1127)
                have lo1133 := hide (Nat.le_trans HB1095.out.size hg1127)
                have lo1134 := hide (Nat.le_trans HB1097.out.size hg1127)
                clear hg1127
                have HB1135 := hide (below_then HB1093.out hb1126)
                have HB1136 := hide (below_then HB1094.out hb1126)
                have HB1137 := hide (below_then HB1095.out hb1126)
                have HB1138 := hide (below_then HB1097.out hb1126)
                clear hb1126 HB1093 HB1094 HB1095 HB1097
                have HB1140 : Hid (Below w1125.heap.size w1125 w1125) := Below.refl _ _
                have HN1 := hide (Sl.one_ KB1128.out)
                have HNA : Hid (¬ G1b g1124) := fun h => by have h1 := HBK.out.bw.bk.lt _ h; have h2 := lo1132.out; omega
                refine s_val hM1129 (.inl rfl) rfl rfl (ev_move (.inr rfl) rfl) (fun a1142 hM1141 => ?_)
                clear hM1129
                refine seg_nil (hK1117 _ _ ?_)
                clear hK1117 K1117 QK1117
                have hM1143 := hM1141.cut6 (t1 := 1) (t2 := 3) (t3 := 4) (t4 := 5) (t5 := 7) (t6 := 8) rfl rfl rfl rfl rfl rfl
                clear hM1141
                rw [e7] at hM1143
                have hM1144 := hM1143.cut6 (t1 := 1) (t2 := 3) (t3 := 4) (t4 := 5) (t5 := 7) (t6 := 8) rfl rfl rfl rfl rfl rfl
                clear hM1143
                have hL := HSG.out.L
                have hBK := (HBK.out.below HB1136.out)
                rw [hL, ← sgW_0 ([x.b.a])] at hBK
                have hW : SlK G1b w1125 (some ⟨g1124, 0, none⟩) 1 (ints [x.b.a]) := SlK.one (by have h := (HN1.out.below HB1140.out); rw [show (putM [] x).b.a = x.b.a from congrArg BtD.a (putM_same x).2.2.1] at h; exact h) HNA.out
                have hnc : Hid (1 ≤ 1000000000000 ∧ 1 ≤ 1) := ⟨by omega, Nat.le_refl _⟩
                exact th_n ⟨batchB x.b.a x.b.n x.b.l, [x.b.a], _, _, _, hM1144, HB1135, hide hBK, (hide (HI.out.below HB1136.out)), hide (KB178.out.on HB1137.out), hide hW, HSG, hnc⟩
              ·
                have HSG := hide (sgf_4 (hpk.symm.trans hk) HM.out)
                have e7 : (putM [] x).d = 1 := by have h := HSG.out.d; rw [digM, if_neg (by rw [hk]; decide)] at h; exact h
                refine region_then fun K1145 QK1145 hK1145 => ?_
                refine s_val hM196 (.inl rfl) rfl rfl (ev_loadm rfl rfl (KB178.out.on HB186.out).rng Try.underlying42 rfl (by rw [HD2.out]; exact Try.infoMsg)) (fun a1147 hM1146 => ?_)
                clear hM196
                refine s_call hM1146 (.inl rfl) rfl rfl (f := 29) (args := #[.agg D2, .int .i64 4]) (ev_call hM1146 rfl rfl rfl (fun w => by simp [go_sem]) _) (ref4_Message 4 (putM [] x) u2 _ (hide ((HI.out.below HB184.out)).s) (hide ((HI.out.below HB184.out)).z) HD2 HM) (fun e w1148 hp => ?_)
                obtain ⟨rfl, hb1149⟩ := hp
                refine ⟨_, rfl, fun a1151 hM1150 => ?_⟩
                clear hM1146
                have HB1152 := hide (below_then HB183.out hb1149)
                have HB1153 := hide (below_then HB184.out hb1149)
                have HB1154 := hide (below_then HB186.out hb1149)
                clear hb1149 HB183 HB184 HB186
                refine s_val hM1150 (.inl rfl) rfl rfl (ev_not rfl rfl rfl) (fun a1156 hM1155 => ?_)
                clear hM1150
                refine s_val hM1155 (.inl rfl) rfl rfl (ev_move (.inl rfl) rfl) (fun a1158 hM1157 => ?_)
                clear hM1155
                refine s_val hM1157 (.inr ⟨_, _, _, rfl, rfl, rfl⟩) rfl rfl (ev_fldw (m := 0) rfl rfl (fun w => by simp [go_sem])) (fun a1160 hM1159 => ?_)
                clear hM1157
                refine s_val hM1159 (.inr ⟨_, _, _, rfl, rfl, rfl⟩) rfl rfl (ev_load1 (v := .int .i64 ((putM [] x).k)) rfl rfl ((KB178.out.on HB1154.out).rng.at_ (m := 0) (by rw [HD2.out]; rfl)) (isAgg_no Try.underlying3 rfl)) (fun a1162 hM1161 => ?_)
                clear hM1159
                refine s_val hM1161 (.inr ⟨_, _, _, rfl, rfl, rfl⟩) rfl rfl (ev_bin rfl rfl rfl g_int (b_neq (b := false) (by simp [hk]))) (fun a1164 hM1163 => ?_)
                clear hM1161
                refine s_val hM1163 (.inr ⟨_, _, _, rfl, rfl, rfl⟩) rfl rfl (ev_move (.inl rfl) rfl) (fun a1166 hM1165 => ?_)
                clear hM1163
                refine s_skip hM1165 rfl rfl rfl rfl rfl rfl (fun a1168 hM1167 => ?_)
                clear hM1165
                refine s_skip hM1167 rfl rfl rfl rfl rfl rfl (fun a1170 hM1169 => ?_)
                clear hM1167
                refine s_skip hM1169 rfl rfl rfl rfl rfl rfl (fun a1172 hM1171 => ?_)
                clear hM1169
                refine s_val hM1171 (.inr ⟨_, _, _, rfl, rfl, rfl⟩) rfl rfl (ev_pick rfl rfl rfl) (fun a1174 hM1173 => ?_)
                clear hM1171
                refine s_val hM1173 (.inr ⟨_, _, _, rfl, rfl, rfl⟩) rfl rfl (ev_move (.inl rfl) rfl) (fun a1176 hM1175 => ?_)
                clear hM1173
                refine s_skip hM1175 rfl rfl rfl rfl rfl rfl (fun a1178 hM1177 => ?_)
                clear hM1175
                refine s_skip hM1177 rfl rfl rfl rfl rfl rfl (fun a1180 hM1179 => ?_)
                clear hM1177
                refine s_skip hM1179 rfl rfl rfl rfl rfl rfl (fun a1182 hM1181 => ?_)
                clear hM1179
                refine s_val hM1181 (.inr ⟨_, _, _, rfl, rfl, rfl⟩) rfl rfl (ev_pick rfl rfl rfl) (fun a1184 hM1183 => ?_)
                clear hM1181
                refine s_val hM1183 (.inr ⟨_, _, _, rfl, rfl, rfl⟩) rfl rfl (ev_move (.inl rfl) rfl) (fun a1186 hM1185 => ?_)
                clear hM1183
                refine s_skip hM1185 rfl rfl rfl rfl rfl rfl (fun a1188 hM1187 => ?_)
                clear hM1185
                refine s_skip hM1187 rfl rfl rfl rfl rfl rfl (fun a1190 hM1189 => ?_)
                clear hM1187
                refine s_skip hM1189 rfl rfl rfl rfl rfl rfl (fun a1192 hM1191 => ?_)
                clear hM1189
                refine s_val hM1191 (.inr ⟨_, _, _, rfl, rfl, rfl⟩) rfl rfl (ev_pick rfl rfl rfl) (fun a1194 hM1193 => ?_)
                clear hM1191
                refine s_val hM1193 (.inl rfl) rfl rfl (ev_pick rfl rfl rfl) (fun a1196 hM1195 => ?_)
                clear hM1193
                refine seg_nil (hK1145 _ _ ?_)
                clear hK1145 K1145 QK1145
                have hM1197 := hM1195.cut5 (t1 := 1) (t2 := 3) (t3 := 4) (t4 := 5) (t5 := 65) rfl rfl rfl rfl rfl
                clear hM1195
                refine wp_cond_false (hM1197.ev (t := 65) rfl) ?_
                refine wp_skip ?_
                refine hK754 _ _ ?_
                refine h_open 7 rfl (by kernel_rfl) fun K1198 w1199 hb1200 hK1198 => ?_
                have HB1201 := hide (below_then HB1152.out hb1200)
                have HB1202 := hide (below_then HB1153.out hb1200)
                have HB1203 := hide (below_then HB1154.out hb1200)
                clear hb1200 HB1152 HB1153 HB1154
                have hS1204 : Below w1199.heap.size w1199 w1199 := Below.refl _ _
                refine h_val 0 rfl (by kernel_rfl) (by kernel_rfl) (by kernel_rfl) hM1197 (.inl rfl) rfl rfl hS1204 (fun w' hr => (ev_fldw (m := 3) rfl rfl (fun w => by simp [go_sem]))) (fun a1206 hM1205 => ?_)
                clear hM1197
                refine h_val 1 rfl (by kernel_rfl) (by kernel_rfl) (by kernel_rfl) hM1205 (.inl rfl) rfl rfl hS1204 (fun w' hr => (ev_load1 (v := .int .i64 ((putM [] x).d)) rfl rfl (((KB178.out.on HB1203.out).on hr).rng.at_ (m := 3) (by rw [HD2.out]; rfl)) (isAgg_no Try.underlying3 rfl))) (fun a1208 hM1207 => ?_)
                clear hM1205
                refine h_val 2 rfl (by kernel_rfl) (by kernel_rfl) (by kernel_rfl) hM1207 (.inl rfl) rfl rfl hS1204 (fun w' hr => (ev_fldw (m := 1) rfl rfl (fun w => by simp [go_sem]))) (fun a1210 hM1209 => ?_)
                clear hM1207
                refine h_val 3 rfl (by kernel_rfl) (by kernel_rfl) (by kernel_rfl) hM1209 (.inl rfl) rfl rfl hS1204 (fun w' hr => (ev_load1 (v := .int .i64 ((putM [] x).f)) rfl rfl (((KB178.out.on HB1203.out).on hr).rng.at_ (m := 1) (by rw [HD2.out]; rfl)) (isAgg_no Try.underlying3 rfl))) (fun a1212 hM1211 => ?_)
                clear hM1209
                refine h_val 5 rfl (by kernel_rfl) (by kernel_rfl) (by kernel_rfl) hM1211 (.inl rfl) rfl rfl hS1204 (fun w' hr => (ev_move (.inr rfl) rfl)) (fun a1214 hM1213 => ?_)
                clear hM1211
                refine h_alloc (e := 3) 4 rfl (by kernel_rfl) hM1213 (.inl rfl) rfl rfl (V := fun g => .slice (some ⟨g, 0, none⟩) 1 1) (ev_bsl hM1213 rfl rfl (fun w => by kernel_rfl)) (fun g1215 a1221 w1216 hM1220 KB1219_ hb1217 hg1218 => ⟨s_in hS1204 hb1217, ?_⟩)
                have lo1223 := hide (Nat.le_trans HB1201.out.size hg1218)
                have lo1224 := hide (Nat.le_trans HB1202.out.size hg1218)
                have lo1225 := hide (Nat.le_trans HB1203.out.size hg1218)
                have KB1219 := hide KB1219_
                have hS1222 := s_in hS1204 hb1217
                clear hM1213 KB1219_ hg1218
                have HB1226 := hide (below_then HB1201.out hb1217)
                have HB1227 := hide (below_then HB1202.out hb1217)
                have HB1228 := hide (below_then HB1203.out hb1217)
                clear hb1217
                have HB1230 : Hid (Below w1216.heap.size w1216 w1216) := Below.refl _ _
                have HN1 := hide (Sl.one_ KB1219.out)
                have HNA : Hid (¬ G1b g1215) := fun h => by have h1 := HBK.out.bw.bk.lt _ h; have h2 := lo1224.out; omega
                refine h_val 6 rfl (by kernel_rfl) (by kernel_rfl) (by kernel_rfl) hM1220 (.inl rfl) rfl rfl hS1222 (fun w' hr => (ev_move (.inr rfl) rfl)) (fun a1232 hM1231 => ?_)
                clear hM1220
                refine h_nil (by kernel_rfl) (hK1198 _ _ ?_)
                clear hK1198 K1198 hS1222 HB1201 HB1202 HB1203
                have hM1233 := hM1231.cut6 (t1 := 1) (t2 := 3) (t3 := 4) (t4 := 5) (t5 := 7) (t6 := 8) rfl rfl rfl rfl rfl rfl
                clear hM1231
                refine wp_seq_join _ ?_ HREST
                refine region_then fun K1234 QK1234 hK1234 => ?_
                refine s_val hM1233 (.inl rfl) rfl rfl (ev_fldw (m := 0) rfl rfl (fun w => by simp [go_sem])) (fun a1236 hM1235 => ?_)
                clear hM1233
                refine s_val hM1235 (.inl rfl) rfl rfl (ev_load1 (v := .int .i64 ((putM [] x).k)) rfl rfl ((KB178.out.on HB1228.out).rng.at_ (m := 0) (by rw [HD2.out]; rfl)) (isAgg_no Try.underlying3 rfl)) (fun a1238 hM1237 => ?_)
                clear hM1235
                refine s_val hM1237 (.inl rfl) rfl rfl (ev_bin rfl rfl rfl g_int (b_eql (b := false) (by simp [hk]))) (fun a1240 hM1239 => ?_)
                clear hM1237
                refine seg_nil (hK1234 _ _ ?_)
                clear hK1234 K1234 QK1234
                have hM1241 := hM1239.cut7 (t1 := 1) (t2 := 3) (t3 := 4) (t4 := 5) (t5 := 7) (t6 := 8) (t7 := 73) rfl rfl rfl rfl rfl rfl rfl
                clear hM1239
                refine wp_cond_false (hM1241.ev (t := 73) rfl) ?_
                refine region_then fun K1242 QK1242 hK1242 => ?_
                refine s_val hM1241 (.inl rfl) rfl rfl (ev_fldw (m := 0) rfl rfl (fun w => by simp [go_sem])) (fun a1244 hM1243 => ?_)
                clear hM1241
                refine s_val hM1243 (.inl rfl) rfl rfl (ev_load1 (v := .int .i64 ((putM [] x).k)) rfl rfl ((KB178.out.on HB1228.out).rng.at_ (m := 0) (by rw [HD2.out]; rfl)) (isAgg_no Try.underlying3 rfl)) (fun a1246 hM1245 => ?_)
                clear hM1243
                refine s_val hM1245 (.inl rfl) rfl rfl (ev_bin rfl rfl rfl g_int (b_neq (b := false) (by simp [hk]))) (fun a1248 hM1247 => ?_)
                clear hM1245
                refine seg_nil (hK1242 _ _ ?_)
                clear hK1242 K1242 QK1242
                have hM1249 := hM1247.cut7 (t1 := 1) (t2 := 3) (t3 := 4) (t4 := 5) (t5 := 7) (t6 := 8) (t7 := 82) rfl rfl rfl rfl rfl rfl rfl
                clear hM1247
                refine wp_cond_false (hM1249.ev (t := 82) rfl) ?_
                refine wp_skip ?_
                rw [e7] at hM1249
                have hM1250 := hM1249.cut6 (t1 := 1) (t2 := 3) (t3 := 4) (t4 := 5) (t5 := 7) (t6 := 8) rfl rfl rfl rfl rfl rfl
                clear hM1249
                have hL := HSG.out.L
                have hBK := (HBK.out.below HB1227.out)
                rw [hL, ← sgW_0 ([x.f])] at hBK
                have hW : SlK G1b w1216 (some ⟨g1215, 0, none⟩) 1 (ints [x.f]) := SlK.one (by have h := (HN1.out.below HB1230.out); rw [show (putM [] x).f = x.f from (putM_same x).2.1] at h; exact h) HNA.out
                have hnc : Hid (1 ≤ 1000000000000 ∧ 1 ≤ 1) := ⟨by omega, Nat.le_refl _⟩
                exact th_n ⟨headerB x.h, [x.f], _, _, _, hM1250, HB1226, hide hBK, (hide (HI.out.below HB1227.out)), hide (KB178.out.on HB1228.out), hide hW, HSG, hnc⟩
              ·
                refine region_then fun K1251 QK1251 hK1251 => ?_
                refine s_val hM196 (.inl rfl) rfl rfl (ev_loadm rfl rfl (KB178.out.on HB186.out).rng Try.underlying42 rfl (by rw [HD2.out]; exact Try.infoMsg)) (fun a1253 hM1252 => ?_)
                clear hM196
                refine s_call hM1252 (.inl rfl) rfl rfl (f := 29) (args := #[.agg D2, .int .i64 4]) (ev_call hM1252 rfl rfl rfl (fun w => by simp [go_sem]) _) (ref4_Message 4 (putM [] x) u2 _ (hide ((HI.out.below HB184.out)).s) (hide ((HI.out.below HB184.out)).z) HD2 HM) (fun e w1254 hp => ?_)
                obtain ⟨rfl, hb1255⟩ := hp
                refine ⟨_, rfl, fun a1257 hM1256 => ?_⟩
                clear hM1252
                have HB1258 := hide (below_then HB183.out hb1255)
                have HB1259 := hide (below_then HB184.out hb1255)
                have HB1260 := hide (below_then HB186.out hb1255)
                clear hb1255 HB183 HB184 HB186
                refine s_val hM1256 (.inl rfl) rfl rfl (ev_not rfl rfl rfl) (fun a1262 hM1261 => ?_)
                clear hM1256
                refine s_val hM1261 (.inl rfl) rfl rfl (ev_move (.inl rfl) rfl) (fun a1264 hM1263 => ?_)
                clear hM1261
                refine s_val hM1263 (.inr ⟨_, _, _, rfl, rfl, rfl⟩) rfl rfl (ev_fldw (m := 0) rfl rfl (fun w => by simp [go_sem])) (fun a1266 hM1265 => ?_)
                clear hM1263
                refine s_val hM1265 (.inr ⟨_, _, _, rfl, rfl, rfl⟩) rfl rfl (ev_load1 (v := .int .i64 ((putM [] x).k)) rfl rfl ((KB178.out.on HB1260.out).rng.at_ (m := 0) (by rw [HD2.out]; rfl)) (isAgg_no Try.underlying3 rfl)) (fun a1268 hM1267 => ?_)
                clear hM1265
                refine s_val hM1267 (.inr ⟨_, _, _, rfl, rfl, rfl⟩) rfl rfl (ev_bin rfl rfl rfl g_int (b_neq (b := true) (by simp [hk]))) (fun a1270 hM1269 => ?_)
                clear hM1267
                refine s_val hM1269 (.inr ⟨_, _, _, rfl, rfl, rfl⟩) rfl rfl (ev_move (.inl rfl) rfl) (fun a1272 hM1271 => ?_)
                clear hM1269
                refine s_val hM1271 (.inr ⟨_, _, _, rfl, rfl, rfl⟩) rfl rfl (ev_fldw (m := 0) rfl rfl (fun w => by simp [go_sem])) (fun a1274 hM1273 => ?_)
                clear hM1271
                refine s_val hM1273 (.inr ⟨_, _, _, rfl, rfl, rfl⟩) rfl rfl (ev_load1 (v := .int .i64 ((putM [] x).k)) rfl rfl ((KB178.out.on HB1260.out).rng.at_ (m := 0) (by rw [HD2.out]; rfl)) (isAgg_no Try.underlying3 rfl)) (fun a1276 hM1275 => ?_)
                clear hM1273
                refine s_val hM1275 (.inr ⟨_, _, _, rfl, rfl, rfl⟩) rfl rfl (ev_bin rfl rfl rfl g_int (b_neq (b := true) (by simp [hk]))) (fun a1278 hM1277 => ?_)
                clear hM1275
                refine s_val hM1277 (.inr ⟨_, _, _, rfl, rfl, rfl⟩) rfl rfl (ev_pick rfl rfl rfl) (fun a1280 hM1279 => ?_)
                clear hM1277
                refine s_val hM1279 (.inr ⟨_, _, _, rfl, rfl, rfl⟩) rfl rfl (ev_move (.inl rfl) rfl) (fun a1282 hM1281 => ?_)
                clear hM1279
                refine s_val hM1281 (.inr ⟨_, _, _, rfl, rfl, rfl⟩) rfl rfl (ev_fldw (m := 0) rfl rfl (fun w => by simp [go_sem])) (fun a1284 hM1283 => ?_)
                clear hM1281
                refine s_val hM1283 (.inr ⟨_, _, _, rfl, rfl, rfl⟩) rfl rfl (ev_load1 (v := .int .i64 ((putM [] x).k)) rfl rfl ((KB178.out.on HB1260.out).rng.at_ (m := 0) (by rw [HD2.out]; rfl)) (isAgg_no Try.underlying3 rfl)) (fun a1286 hM1285 => ?_)
                clear hM1283
                refine s_val hM1285 (.inr ⟨_, _, _, rfl, rfl, rfl⟩) rfl rfl (ev_bin rfl rfl rfl g_int (b_neq (b := true) (by simp [hk]))) (fun a1288 hM1287 => ?_)
                clear hM1285
                refine s_val hM1287 (.inr ⟨_, _, _, rfl, rfl, rfl⟩) rfl rfl (ev_pick rfl rfl rfl) (fun a1290 hM1289 => ?_)
                clear hM1287
                refine s_val hM1289 (.inr ⟨_, _, _, rfl, rfl, rfl⟩) rfl rfl (ev_move (.inl rfl) rfl) (fun a1292 hM1291 => ?_)
                clear hM1289
                refine s_val hM1291 (.inr ⟨_, _, _, rfl, rfl, rfl⟩) rfl rfl (ev_fldw (m := 0) rfl rfl (fun w => by simp [go_sem])) (fun a1294 hM1293 => ?_)
                clear hM1291
                refine s_val hM1293 (.inr ⟨_, _, _, rfl, rfl, rfl⟩) rfl rfl (ev_load1 (v := .int .i64 ((putM [] x).k)) rfl rfl ((KB178.out.on HB1260.out).rng.at_ (m := 0) (by rw [HD2.out]; rfl)) (isAgg_no Try.underlying3 rfl)) (fun a1296 hM1295 => ?_)
                clear hM1293
                refine s_val hM1295 (.inr ⟨_, _, _, rfl, rfl, rfl⟩) rfl rfl (ev_bin rfl rfl rfl g_int (b_neq (b := true) (by simp [hk]))) (fun a1298 hM1297 => ?_)
                clear hM1295
                refine s_val hM1297 (.inr ⟨_, _, _, rfl, rfl, rfl⟩) rfl rfl (ev_pick rfl rfl rfl) (fun a1300 hM1299 => ?_)
                clear hM1297
                refine s_val hM1299 (.inl rfl) rfl rfl (ev_pick rfl rfl rfl) (fun a1302 hM1301 => ?_)
                clear hM1299
                refine seg_nil (hK1251 _ _ ?_)
                clear hK1251 K1251 QK1251
                have hM1303 := hM1301.cut5 (t1 := 1) (t2 := 3) (t3 := 4) (t4 := 5) (t5 := 65) rfl rfl rfl rfl rfl
                clear hM1301
                refine wp_cond_true (hM1303.ev (t := 65) rfl) ?_
                refine wp_exit ?_
                repeat (with_reducible refine th_e ?_)
                refine inb_e ?_
                refine hK109 _ _ ?_
                refine region_last fun K1304 QK1304 hK1304 => ?_
                refine s_val hM1303 (.inl rfl) rfl rfl (ev_move (.inl rfl) rfl) (fun a1306 hM1305 => ?_)
                clear hM1303
                refine s_val hM1305 (.inl rfl) rfl rfl (ev_bin rfl rfl rfl g_int (b_add (r := ((j + 1 : Nat) : Int)) (by omega) (by omega))) (fun a1308 hM1307 => ?_)
                clear hM1305
                refine s_val hM1307 (.inl rfl) rfl rfl (ev_move (.inr rfl) rfl) (fun a1310 hM1309 => ?_)
                clear hM1307
                refine seg_nil (hK1304 _ _ ?_)
                clear hK1304 K1304 QK1304
                have hM1311 := hM1309.cut2 (t1 := 1) (t2 := 3) rfl rfl
                clear hM1309
                have hM1312 := hM1311.cut2 (t1 := 3) (t2 := 1) rfl rfl
                clear hM1311
                exact ⟨s.l.n - (j + 1), by omega, j + 1, rfl, hM1312, HB1258⟩
              ·
                have HSG := hide (sgf_6 (hpk.symm.trans hk) HM.out)
                have e7 : (putM [] x).c.d = 1 := by have h := HSG.out.d; rw [digM, if_pos hk] at h; exact h
                refine region_then fun K1313 QK1313 hK1313 => ?_
                refine s_val hM196 (.inl rfl) rfl rfl (ev_loadm rfl rfl (KB178.out.on HB186.out).rng Try.underlying42 rfl (by rw [HD2.out]; exact Try.infoMsg)) (fun a1315 hM1314 => ?_)
                clear hM196
                refine s_call hM1314 (.inl rfl) rfl rfl (f := 29) (args := #[.agg D2, .int .i64 4]) (ev_call hM1314 rfl rfl rfl (fun w => by simp [go_sem]) _) (ref4_Message 4 (putM [] x) u2 _ (hide ((HI.out.below HB184.out)).s) (hide ((HI.out.below HB184.out)).z) HD2 HM) (fun e w1316 hp => ?_)
                obtain ⟨rfl, hb1317⟩ := hp
                refine ⟨_, rfl, fun a1319 hM1318 => ?_⟩
                clear hM1314
                have HB1320 := hide (below_then HB183.out hb1317)
                have HB1321 := hide (below_then HB184.out hb1317)
                have HB1322 := hide (below_then HB186.out hb1317)
                clear hb1317 HB183 HB184 HB186
                refine s_val hM1318 (.inl rfl) rfl rfl (ev_not rfl rfl rfl) (fun a1324 hM1323 => ?_)
                clear hM1318
                refine s_val hM1323 (.inl rfl) rfl rfl (ev_move (.inl rfl) rfl) (fun a1326 hM1325 => ?_)
                clear hM1323
                refine s_val hM1325 (.inr ⟨_, _, _, rfl, rfl, rfl⟩) rfl rfl (ev_fldw (m := 0) rfl rfl (fun w => by simp [go_sem])) (fun a1328 hM1327 => ?_)
                clear hM1325
                refine s_val hM1327 (.inr ⟨_, _, _, rfl, rfl, rfl⟩) rfl rfl (ev_load1 (v := .int .i64 ((putM [] x).k)) rfl rfl ((KB178.out.on HB1322.out).rng.at_ (m := 0) (by rw [HD2.out]; rfl)) (isAgg_no Try.underlying3 rfl)) (fun a1330 hM1329 => ?_)
                clear hM1327
                refine s_val hM1329 (.inr ⟨_, _, _, rfl, rfl, rfl⟩) rfl rfl (ev_bin rfl rfl rfl g_int (b_neq (b := true) (by simp [hk]))) (fun a1332 hM1331 => ?_)
                clear hM1329
                refine s_val hM1331 (.inr ⟨_, _, _, rfl, rfl, rfl⟩) rfl rfl (ev_move (.inl rfl) rfl) (fun a1334 hM1333 => ?_)
                clear hM1331
                refine s_val hM1333 (.inr ⟨_, _, _, rfl, rfl, rfl⟩) rfl rfl (ev_fldw (m := 0) rfl rfl (fun w => by simp [go_sem])) (fun a1336 hM1335 => ?_)
                clear hM1333
                refine s_val hM1335 (.inr ⟨_, _, _, rfl, rfl, rfl⟩) rfl rfl (ev_load1 (v := .int .i64 ((putM [] x).k)) rfl rfl ((KB178.out.on HB1322.out).rng.at_ (m := 0) (by rw [HD2.out]; rfl)) (isAgg_no Try.underlying3 rfl)) (fun a1338 hM1337 => ?_)
                clear hM1335
                refine s_val hM1337 (.inr ⟨_, _, _, rfl, rfl, rfl⟩) rfl rfl (ev_bin rfl rfl rfl g_int (b_neq (b := false) (by simp [hk]))) (fun a1340 hM1339 => ?_)
                clear hM1337
                refine s_val hM1339 (.inr ⟨_, _, _, rfl, rfl, rfl⟩) rfl rfl (ev_pick rfl rfl rfl) (fun a1342 hM1341 => ?_)
                clear hM1339
                refine s_val hM1341 (.inr ⟨_, _, _, rfl, rfl, rfl⟩) rfl rfl (ev_move (.inl rfl) rfl) (fun a1344 hM1343 => ?_)
                clear hM1341
                refine s_skip hM1343 rfl rfl rfl rfl rfl rfl (fun a1346 hM1345 => ?_)
                clear hM1343
                refine s_skip hM1345 rfl rfl rfl rfl rfl rfl (fun a1348 hM1347 => ?_)
                clear hM1345
                refine s_skip hM1347 rfl rfl rfl rfl rfl rfl (fun a1350 hM1349 => ?_)
                clear hM1347
                refine s_val hM1349 (.inr ⟨_, _, _, rfl, rfl, rfl⟩) rfl rfl (ev_pick rfl rfl rfl) (fun a1352 hM1351 => ?_)
                clear hM1349
                refine s_val hM1351 (.inr ⟨_, _, _, rfl, rfl, rfl⟩) rfl rfl (ev_move (.inl rfl) rfl) (fun a1354 hM1353 => ?_)
                clear hM1351
                refine s_skip hM1353 rfl rfl rfl rfl rfl rfl (fun a1356 hM1355 => ?_)
                clear hM1353
                refine s_skip hM1355 rfl rfl rfl rfl rfl rfl (fun a1358 hM1357 => ?_)
                clear hM1355
                refine s_skip hM1357 rfl rfl rfl rfl rfl rfl (fun a1360 hM1359 => ?_)
                clear hM1357
                refine s_val hM1359 (.inr ⟨_, _, _, rfl, rfl, rfl⟩) rfl rfl (ev_pick rfl rfl rfl) (fun a1362 hM1361 => ?_)
                clear hM1359
                refine s_val hM1361 (.inl rfl) rfl rfl (ev_pick rfl rfl rfl) (fun a1364 hM1363 => ?_)
                clear hM1361
                refine seg_nil (hK1313 _ _ ?_)
                clear hK1313 K1313 QK1313
                have hM1365 := hM1363.cut5 (t1 := 1) (t2 := 3) (t3 := 4) (t4 := 5) (t5 := 65) rfl rfl rfl rfl rfl
                clear hM1363
                refine wp_cond_false (hM1365.ev (t := 65) rfl) ?_
                refine wp_skip ?_
                refine hK754 _ _ ?_
                refine h_open 7 rfl (by kernel_rfl) fun K1366 w1367 hb1368 hK1366 => ?_
                have HB1369 := hide (below_then HB1320.out hb1368)
                have HB1370 := hide (below_then HB1321.out hb1368)
                have HB1371 := hide (below_then HB1322.out hb1368)
                clear hb1368 HB1320 HB1321 HB1322
                have hS1372 : Below w1367.heap.size w1367 w1367 := Below.refl _ _
                refine h_val 0 rfl (by kernel_rfl) (by kernel_rfl) (by kernel_rfl) hM1365 (.inl rfl) rfl rfl hS1372 (fun w' hr => (ev_fldw (m := 3) rfl rfl (fun w => by simp [go_sem]))) (fun a1374 hM1373 => ?_)
                clear hM1365
                refine h_val 1 rfl (by kernel_rfl) (by kernel_rfl) (by kernel_rfl) hM1373 (.inl rfl) rfl rfl hS1372 (fun w' hr => (ev_load1 (v := .int .i64 ((putM [] x).d)) rfl rfl (((KB178.out.on HB1371.out).on hr).rng.at_ (m := 3) (by rw [HD2.out]; rfl)) (isAgg_no Try.underlying3 rfl))) (fun a1376 hM1375 => ?_)
                clear hM1373
                refine h_val 2 rfl (by kernel_rfl) (by kernel_rfl) (by kernel_rfl) hM1375 (.inl rfl) rfl rfl hS1372 (fun w' hr => (ev_fldw (m := 1) rfl rfl (fun w => by simp [go_sem]))) (fun a1378 hM1377 => ?_)
                clear hM1375
                refine h_val 3 rfl (by kernel_rfl) (by kernel_rfl) (by kernel_rfl) hM1377 (.inl rfl) rfl rfl hS1372 (fun w' hr => (ev_load1 (v := .int .i64 ((putM [] x).f)) rfl rfl (((KB178.out.on HB1371.out).on hr).rng.at_ (m := 1) (by rw [HD2.out]; rfl)) (isAgg_no Try.underlying3 rfl))) (fun a1380 hM1379 => ?_)
                clear hM1377
                refine h_val 5 rfl (by kernel_rfl) (by kernel_rfl) (by kernel_rfl) hM1379 (.inl rfl) rfl rfl hS1372 (fun w' hr => (ev_move (.inr rfl) rfl)) (fun a1382 hM1381 => ?_)
                clear hM1379
                refine h_alloc (e := 3) 4 rfl (by kernel_rfl) hM1381 (.inl rfl) rfl rfl (V := fun g => .slice (some ⟨g, 0, none⟩) 1 1) (ev_bsl hM1381 rfl rfl (fun w => by kernel_rfl)) (fun g1383 a1389 w1384 hM1388 KB1387_ hb1385 hg1386 => ⟨s_in hS1372 hb1385, ?_⟩)
                have lo1391 := hide (Nat.le_trans HB1369.out.size hg1386)
                have lo1392 := hide (Nat.le_trans HB1370.out.size hg1386)
                have lo1393 := hide (Nat.le_trans HB1371.out.size hg1386)
                have KB1387 := hide KB1387_
                have hS1390 := s_in hS1372 hb1385
                clear hM1381 KB1387_ hg1386
                have HB1394 := hide (below_then HB1369.out hb1385)
                have HB1395 := hide (below_then HB1370.out hb1385)
                have HB1396 := hide (below_then HB1371.out hb1385)
                clear hb1385
                have HB1398 : Hid (Below w1384.heap.size w1384 w1384) := Below.refl _ _
                have HN1 := hide (Sl.one_ KB1387.out)
                have HNA : Hid (¬ G1b g1383) := fun h => by have h1 := HBK.out.bw.bk.lt _ h; have h2 := lo1392.out; omega
                refine h_val 6 rfl (by kernel_rfl) (by kernel_rfl) (by kernel_rfl) hM1388 (.inl rfl) rfl rfl hS1390 (fun w' hr => (ev_move (.inr rfl) rfl)) (fun a1400 hM1399 => ?_)
                clear hM1388
                refine h_nil (by kernel_rfl) (hK1366 _ _ ?_)
                clear hK1366 K1366 hS1390 HB1369 HB1370 HB1371
                have hM1401 := hM1399.cut6 (t1 := 1) (t2 := 3) (t3 := 4) (t4 := 5) (t5 := 7) (t6 := 8) rfl rfl rfl rfl rfl rfl
                clear hM1399
                refine wp_seq_join _ ?_ HREST
                refine region_then fun K1402 QK1402 hK1402 => ?_
                refine s_val hM1401 (.inl rfl) rfl rfl (ev_fldw (m := 0) rfl rfl (fun w => by simp [go_sem])) (fun a1404 hM1403 => ?_)
                clear hM1401
                refine s_val hM1403 (.inl rfl) rfl rfl (ev_load1 (v := .int .i64 ((putM [] x).k)) rfl rfl ((KB178.out.on HB1396.out).rng.at_ (m := 0) (by rw [HD2.out]; rfl)) (isAgg_no Try.underlying3 rfl)) (fun a1406 hM1405 => ?_)
                clear hM1403
                refine s_val hM1405 (.inl rfl) rfl rfl (ev_bin rfl rfl rfl g_int (b_eql (b := true) (by simp [hk]))) (fun a1408 hM1407 => ?_)
                clear hM1405
                refine seg_nil (hK1402 _ _ ?_)
                clear hK1402 K1402 QK1402
                have hM1409 := hM1407.cut7 (t1 := 1) (t2 := 3) (t3 := 4) (t4 := 5) (t5 := 7) (t6 := 8) (t7 := 73) rfl rfl rfl rfl rfl rfl rfl
                clear hM1407
                refine wp_cond_true (hM1409.ev (t := 73) rfl) ?_
                refine q_open_end (by kernel_rfl) (by kernel_rfl) fun K1410 hK1410 => ?_
                refine q_val hM1409 (.inl rfl) rfl rfl (fun m => (ev_fldw (m := 11) rfl rfl (fun w => by simp [go_sem]))) (fun a1412 hM1411 => ?_)
                clear hM1409
                refine q_val hM1411 (.inl rfl) rfl rfl (fun m => (ev_fldw (m := 15) rfl rfl (fun w => by simp [go_sem]))) (fun a1414 hM1413 => ?_)
                clear hM1411
                refine q_val hM1413 (.inl rfl) rfl rfl (fun m => (ev_load1 (v := .int .i64 ((putM [] x).c.d)) rfl rfl (((KB178.out.on HB1396.out).on (Wd.below m)).rng.at_ (m := 15) (by rw [HD2.out]; rfl)) (isAgg_no Try.underlying3 rfl))) (fun a1416 hM1415 => ?_)
                clear hM1413
                refine q_val hM1415 (.inl rfl) rfl rfl (fun m => (ev_fldw (m := 11) rfl rfl (fun w => by simp [go_sem]))) (fun a1418 hM1417 => ?_)
                clear hM1415
                refine q_val hM1417 (.inl rfl) rfl rfl (fun m => (ev_fldw (m := 16) rfl rfl (fun w => by simp [go_sem]))) (fun a1420 hM1419 => ?_)
                clear hM1417
                refine q_val hM1419 (.inl rfl) rfl rfl (fun m => (ev_load1 (v := .slice (u2.cs.A) (u2.cs.n) (u2.cs.c)) rfl rfl (((KB178.out.on HB1396.out).on (Wd.below m)).rng.at_ (m := 16) (by rw [HD2.out]; rfl)) (isAgg_no Try.underlying22 rfl))) (fun a1422 hM1421 => ?_)
                clear hM1419
                refine q_val hM1421 (.inl rfl) rfl rfl (fun m => (ev_move (.inr rfl) rfl)) (fun a1424 hM1423 => ?_)
                clear hM1421
                refine q_val hM1423 (.inl rfl) rfl rfl (fun m => (ev_move (.inr rfl) rfl)) (fun a1426 hM1425 => ?_)
                clear hM1423
                refine wpQuiet_nil (hK1410 _ fun w1427 hb1428 => ?_)
                clear hK1410 K1410
                have HB1429 := hide (below_then HB1394.out hb1428)
                have HB1430 := hide (below_then HB1395.out hb1428)
                have HB1431 := hide (below_then HB1396.out hb1428)
                have HB1432 := hide (below_then HB1398.out hb1428)
                clear hb1428 HB1394 HB1395 HB1396 HB1398
                have hM1433 := hM1425.cut6 (t1 := 1) (t2 := 3) (t3 := 4) (t4 := 5) (t5 := 7) (t6 := 8) rfl rfl rfl rfl rfl rfl
                clear hM1425
                rw [e7] at hM1433
                have hM1434 := hM1433.cut6 (t1 := 1) (t2 := 3) (t3 := 4) (t4 := 5) (t5 := 7) (t6 := 8) rfl rfl rfl rfl rfl rfl
                clear hM1433
                have hL := HSG.out.L
                have hBK := (HBK.out.below HB1430.out)
                rw [hL, ← sgW_0 (x.c.ss)] at hBK
                have hW : SlK G1b w1427 u2.cs.A u2.cs.n (ints x.c.ss) := ⟨by have h := ((HI.out.below HB1430.out)).s.cs; rw [(putM_same x).2.2.2.2.2] at h; exact h, fun hn b off e => ((HI.out.below HB1430.out)).ap u2.cs (by simp [slsV]) hn b off e⟩
                have hnc : Hid (u2.cs.n ≤ 1000000000000 ∧ u2.cs.n ≤ u2.cs.c) := ⟨((HI.out.below HB1430.out)).k.cs, HUC.out⟩
                exact th_n ⟨headerB x.c.h, x.c.ss, _, _, _, hM1434, HB1429, hide hBK, (hide (HI.out.below HB1430.out)), hide (KB178.out.on HB1431.out), hide hW, HSG, hnc⟩
              ·
                refine region_then fun K1435 QK1435 hK1435 => ?_
                refine s_val hM196 (.inl rfl) rfl rfl (ev_loadm rfl rfl (KB178.out.on HB186.out).rng Try.underlying42 rfl (by rw [HD2.out]; exact Try.infoMsg)) (fun a1437 hM1436 => ?_)
                clear hM196
                refine s_call hM1436 (.inl rfl) rfl rfl (f := 29) (args := #[.agg D2, .int .i64 4]) (ev_call hM1436 rfl rfl rfl (fun w => by simp [go_sem]) _) (ref4_Message 4 (putM [] x) u2 _ (hide ((HI.out.below HB184.out)).s) (hide ((HI.out.below HB184.out)).z) HD2 HM) (fun e w1438 hp => ?_)
                obtain ⟨rfl, hb1439⟩ := hp
                refine ⟨_, rfl, fun a1441 hM1440 => ?_⟩
                clear hM1436
                have HB1442 := hide (below_then HB183.out hb1439)
                have HB1443 := hide (below_then HB184.out hb1439)
                have HB1444 := hide (below_then HB186.out hb1439)
                clear hb1439 HB183 HB184 HB186
                refine s_val hM1440 (.inl rfl) rfl rfl (ev_not rfl rfl rfl) (fun a1446 hM1445 => ?_)
                clear hM1440
                refine s_val hM1445 (.inl rfl) rfl rfl (ev_move (.inl rfl) rfl) (fun a1448 hM1447 => ?_)
                clear hM1445
                refine s_val hM1447 (.inr ⟨_, _, _, rfl, rfl, rfl⟩) rfl rfl (ev_fldw (m := 0) rfl rfl (fun w => by simp [go_sem])) (fun a1450 hM1449 => ?_)
                clear hM1447
                refine s_val hM1449 (.inr ⟨_, _, _, rfl, rfl, rfl⟩) rfl rfl (ev_load1 (v := .int .i64 ((putM [] x).k)) rfl rfl ((KB178.out.on HB1444.out).rng.at_ (m := 0) (by rw [HD2.out]; rfl)) (isAgg_no Try.underlying3 rfl)) (fun a1452 hM1451 => ?_)
                clear hM1449
                refine s_val hM1451 (.inr ⟨_, _, _, rfl, rfl, rfl⟩) rfl rfl (ev_bin rfl rfl rfl g_int (b_neq (b := true) (by simp [hk]))) (fun a1454 hM1453 => ?_)
                clear hM1451
                refine s_val hM1453 (.inr ⟨_, _, _, rfl, rfl, rfl⟩) rfl rfl (ev_move (.inl rfl) rfl) (fun a1456 hM1455 => ?_)
                clear hM1453
                refine s_val hM1455 (.inr ⟨_, _, _, rfl, rfl, rfl⟩) rfl rfl (ev_fldw (m := 0) rfl rfl (fun w => by simp [go_sem])) (fun a1458 hM1457 => ?_)
                clear hM1455
                refine s_val hM1457 (.inr ⟨_, _, _, rfl, rfl, rfl⟩) rfl rfl (ev_load1 (v := .int .i64 ((putM [] x).k)) rfl rfl ((KB178.out.on HB1444.out).rng.at_ (m := 0) (by rw [HD2.out]; rfl)) (isAgg_no Try.underlying3 rfl)) (fun a1460 hM1459 => ?_)
                clear hM1457
                refine s_val hM1459 (.inr ⟨_, _, _, rfl, rfl, rfl⟩) rfl rfl (ev_bin rfl rfl rfl g_int (b_neq (b := true) (by simp [hk]))) (fun a1462 hM1461 => ?_)
                clear hM1459
                refine s_val hM1461 (.inr ⟨_, _, _, rfl, rfl, rfl⟩) rfl rfl (ev_pick rfl rfl rfl) (fun a1464 hM1463 => ?_)
                clear hM1461
                refine s_val hM1463 (.inr ⟨_, _, _, rfl, rfl, rfl⟩) rfl rfl (ev_move (.inl rfl) rfl) (fun a1466 hM1465 => ?_)
                clear hM1463
                refine s_val hM1465 (.inr ⟨_, _, _, rfl, rfl, rfl⟩) rfl rfl (ev_fldw (m := 0) rfl rfl (fun w => by simp [go_sem])) (fun a1468 hM1467 => ?_)
                clear hM1465
                refine s_val hM1467 (.inr ⟨_, _, _, rfl, rfl, rfl⟩) rfl rfl (ev_load1 (v := .int .i64 ((putM [] x).k)) rfl rfl ((KB178.out.on HB1444.out).rng.at_ (m := 0) (by rw [HD2.out]; rfl)) (isAgg_no Try.underlying3 rfl)) (fun a1470 hM1469 => ?_)
                clear hM1467
                refine s_val hM1469 (.inr ⟨_, _, _, rfl, rfl, rfl⟩) rfl rfl (ev_bin rfl rfl rfl g_int (b_neq (b := true) (by simp [hk]))) (fun a1472 hM1471 => ?_)
                clear hM1469
                refine s_val hM1471 (.inr ⟨_, _, _, rfl, rfl, rfl⟩) rfl rfl (ev_pick rfl rfl rfl) (fun a1474 hM1473 => ?_)
                clear hM1471
                refine s_val hM1473 (.inr ⟨_, _, _, rfl, rfl, rfl⟩) rfl rfl (ev_move (.inl rfl) rfl) (fun a1476 hM1475 => ?_)
                clear hM1473
                refine s_val hM1475 (.inr ⟨_, _, _, rfl, rfl, rfl⟩) rfl rfl (ev_fldw (m := 0) rfl rfl (fun w => by simp [go_sem])) (fun a1478 hM1477 => ?_)
                clear hM1475
                refine s_val hM1477 (.inr ⟨_, _, _, rfl, rfl, rfl⟩) rfl rfl (ev_load1 (v := .int .i64 ((putM [] x).k)) rfl rfl ((KB178.out.on HB1444.out).rng.at_ (m := 0) (by rw [HD2.out]; rfl)) (isAgg_no Try.underlying3 rfl)) (fun a1480 hM1479 => ?_)
                clear hM1477
                refine s_val hM1479 (.inr ⟨_, _, _, rfl, rfl, rfl⟩) rfl rfl (ev_bin rfl rfl rfl g_int (b_neq (b := true) (by simp [hk]))) (fun a1482 hM1481 => ?_)
                clear hM1479
                refine s_val hM1481 (.inr ⟨_, _, _, rfl, rfl, rfl⟩) rfl rfl (ev_pick rfl rfl rfl) (fun a1484 hM1483 => ?_)
                clear hM1481
                refine s_val hM1483 (.inl rfl) rfl rfl (ev_pick rfl rfl rfl) (fun a1486 hM1485 => ?_)
                clear hM1483
                refine seg_nil (hK1435 _ _ ?_)
                clear hK1435 K1435 QK1435
                have hM1487 := hM1485.cut5 (t1 := 1) (t2 := 3) (t3 := 4) (t4 := 5) (t5 := 65) rfl rfl rfl rfl rfl
                clear hM1485
                refine wp_cond_true (hM1487.ev (t := 65) rfl) ?_
                refine wp_exit ?_
                repeat (with_reducible refine th_e ?_)
                refine inb_e ?_
                refine hK109 _ _ ?_
                refine region_last fun K1488 QK1488 hK1488 => ?_
                refine s_val hM1487 (.inl rfl) rfl rfl (ev_move (.inl rfl) rfl) (fun a1490 hM1489 => ?_)
                clear hM1487
                refine s_val hM1489 (.inl rfl) rfl rfl (ev_bin rfl rfl rfl g_int (b_add (r := ((j + 1 : Nat) : Int)) (by omega) (by omega))) (fun a1492 hM1491 => ?_)
                clear hM1489
                refine s_val hM1491 (.inl rfl) rfl rfl (ev_move (.inr rfl) rfl) (fun a1494 hM1493 => ?_)
                clear hM1491
                refine seg_nil (hK1488 _ _ ?_)
                clear hK1488 K1488 QK1488
                have hM1495 := hM1493.cut2 (t1 := 1) (t2 := 3) rfl rfl
                clear hM1493
                have hM1496 := hM1495.cut2 (t1 := 3) (t2 := 1) rfl rfl
                clear hM1495
                exact ⟨s.l.n - (j + 1), by omega, j + 1, rfl, hM1496, HB1442⟩
              ·
                refine region_then fun K1497 QK1497 hK1497 => ?_
                refine s_val hM196 (.inl rfl) rfl rfl (ev_loadm rfl rfl (KB178.out.on HB186.out).rng Try.underlying42 rfl (by rw [HD2.out]; exact Try.infoMsg)) (fun a1499 hM1498 => ?_)
                clear hM196
                refine s_call hM1498 (.inl rfl) rfl rfl (f := 29) (args := #[.agg D2, .int .i64 4]) (ev_call hM1498 rfl rfl rfl (fun w => by simp [go_sem]) _) (ref4_Message 4 (putM [] x) u2 _ (hide ((HI.out.below HB184.out)).s) (hide ((HI.out.below HB184.out)).z) HD2 HM) (fun e w1500 hp => ?_)
                obtain ⟨rfl, hb1501⟩ := hp
                refine ⟨_, rfl, fun a1503 hM1502 => ?_⟩
                clear hM1498
                have HB1504 := hide (below_then HB183.out hb1501)
                have HB1505 := hide (below_then HB184.out hb1501)
                have HB1506 := hide (below_then HB186.out hb1501)
                clear hb1501 HB183 HB184 HB186
                refine s_val hM1502 (.inl rfl) rfl rfl (ev_not rfl rfl rfl) (fun a1508 hM1507 => ?_)
                clear hM1502
                refine s_val hM1507 (.inl rfl) rfl rfl (ev_move (.inl rfl) rfl) (fun a1510 hM1509 => ?_)
                clear hM1507
                refine s_val hM1509 (.inr ⟨_, _, _, rfl, rfl, rfl⟩) rfl rfl (ev_fldw (m := 0) rfl rfl (fun w => by simp [go_sem])) (fun a1512 hM1511 => ?_)
                clear hM1509
                refine s_val hM1511 (.inr ⟨_, _, _, rfl, rfl, rfl⟩) rfl rfl (ev_load1 (v := .int .i64 ((putM [] x).k)) rfl rfl ((KB178.out.on HB1506.out).rng.at_ (m := 0) (by rw [HD2.out]; rfl)) (isAgg_no Try.underlying3 rfl)) (fun a1514 hM1513 => ?_)
                clear hM1511
                refine s_val hM1513 (.inr ⟨_, _, _, rfl, rfl, rfl⟩) rfl rfl (ev_bin rfl rfl rfl g_int (b_neq (b := true) (by simp [hk]))) (fun a1516 hM1515 => ?_)
                clear hM1513
                refine s_val hM1515 (.inr ⟨_, _, _, rfl, rfl, rfl⟩) rfl rfl (ev_move (.inl rfl) rfl) (fun a1518 hM1517 => ?_)
                clear hM1515
                refine s_val hM1517 (.inr ⟨_, _, _, rfl, rfl, rfl⟩) rfl rfl (ev_fldw (m := 0) rfl rfl (fun w => by simp [go_sem])) (fun a1520 hM1519 => ?_)
                clear hM1517
                refine s_val hM1519 (.inr ⟨_, _, _, rfl, rfl, rfl⟩) rfl rfl (ev_load1 (v := .int .i64 ((putM [] x).k)) rfl rfl ((KB178.out.on HB1506.out).rng.at_ (m := 0) (by rw [HD2.out]; rfl)) (isAgg_no Try.underlying3 rfl)) (fun a1522 hM1521 => ?_)
                clear hM1519
                refine s_val hM1521 (.inr ⟨_, _, _, rfl, rfl, rfl⟩) rfl rfl (ev_bin rfl rfl rfl g_int (b_neq (b := true) (by simp [hk]))) (fun a1524 hM1523 => ?_)
                clear hM1521
                refine s_val hM1523 (.inr ⟨_, _, _, rfl, rfl, rfl⟩) rfl rfl (ev_pick rfl rfl rfl) (fun a1526 hM1525 => ?_)
                clear hM1523
                refine s_val hM1525 (.inr ⟨_, _, _, rfl, rfl, rfl⟩) rfl rfl (ev_move (.inl rfl) rfl) (fun a1528 hM1527 => ?_)
                clear hM1525
                refine s_val hM1527 (.inr ⟨_, _, _, rfl, rfl, rfl⟩) rfl rfl (ev_fldw (m := 0) rfl rfl (fun w => by simp [go_sem])) (fun a1530 hM1529 => ?_)
                clear hM1527
                refine s_val hM1529 (.inr ⟨_, _, _, rfl, rfl, rfl⟩) rfl rfl (ev_load1 (v := .int .i64 ((putM [] x).k)) rfl rfl ((KB178.out.on HB1506.out).rng.at_ (m := 0) (by rw [HD2.out]; rfl)) (isAgg_no Try.underlying3 rfl)) (fun a1532 hM1531 => ?_)
                clear hM1529
                refine s_val hM1531 (.inr ⟨_, _, _, rfl, rfl, rfl⟩) rfl rfl (ev_bin rfl rfl rfl g_int (b_neq (b := true) (by simp [hk]))) (fun a1534 hM1533 => ?_)
                clear hM1531
                refine s_val hM1533 (.inr ⟨_, _, _, rfl, rfl, rfl⟩) rfl rfl (ev_pick rfl rfl rfl) (fun a1536 hM1535 => ?_)
                clear hM1533
                refine s_val hM1535 (.inr ⟨_, _, _, rfl, rfl, rfl⟩) rfl rfl (ev_move (.inl rfl) rfl) (fun a1538 hM1537 => ?_)
                clear hM1535
                refine s_val hM1537 (.inr ⟨_, _, _, rfl, rfl, rfl⟩) rfl rfl (ev_fldw (m := 0) rfl rfl (fun w => by simp [go_sem])) (fun a1540 hM1539 => ?_)
                clear hM1537
                refine s_val hM1539 (.inr ⟨_, _, _, rfl, rfl, rfl⟩) rfl rfl (ev_load1 (v := .int .i64 ((putM [] x).k)) rfl rfl ((KB178.out.on HB1506.out).rng.at_ (m := 0) (by rw [HD2.out]; rfl)) (isAgg_no Try.underlying3 rfl)) (fun a1542 hM1541 => ?_)
                clear hM1539
                refine s_val hM1541 (.inr ⟨_, _, _, rfl, rfl, rfl⟩) rfl rfl (ev_bin rfl rfl rfl g_int (b_neq (b := true) (by simp [hk]))) (fun a1544 hM1543 => ?_)
                clear hM1541
                refine s_val hM1543 (.inr ⟨_, _, _, rfl, rfl, rfl⟩) rfl rfl (ev_pick rfl rfl rfl) (fun a1546 hM1545 => ?_)
                clear hM1543
                refine s_val hM1545 (.inl rfl) rfl rfl (ev_pick rfl rfl rfl) (fun a1548 hM1547 => ?_)
                clear hM1545
                refine seg_nil (hK1497 _ _ ?_)
                clear hK1497 K1497 QK1497
                have hM1549 := hM1547.cut5 (t1 := 1) (t2 := 3) (t3 := 4) (t4 := 5) (t5 := 65) rfl rfl rfl rfl rfl
                clear hM1547
                refine wp_cond_true (hM1549.ev (t := 65) rfl) ?_
                refine wp_exit ?_
                repeat (with_reducible refine th_e ?_)
                refine inb_e ?_
                refine hK109 _ _ ?_
                refine region_last fun K1550 QK1550 hK1550 => ?_
                refine s_val hM1549 (.inl rfl) rfl rfl (ev_move (.inl rfl) rfl) (fun a1552 hM1551 => ?_)
                clear hM1549
                refine s_val hM1551 (.inl rfl) rfl rfl (ev_bin rfl rfl rfl g_int (b_add (r := ((j + 1 : Nat) : Int)) (by omega) (by omega))) (fun a1554 hM1553 => ?_)
                clear hM1551
                refine s_val hM1553 (.inl rfl) rfl rfl (ev_move (.inr rfl) rfl) (fun a1556 hM1555 => ?_)
                clear hM1553
                refine seg_nil (hK1550 _ _ ?_)
                clear hK1550 K1550 QK1550
                have hM1557 := hM1555.cut2 (t1 := 1) (t2 := 3) rfl rfl
                clear hM1555
                have hM1558 := hM1557.cut2 (t1 := 3) (t2 := 1) rfl rfl
                clear hM1557
                exact ⟨s.l.n - (j + 1), by omega, j + 1, rfl, hM1558, HB1504⟩
    ·
      clear HB34 hM40
      rintro a1561 w1559 ⟨j, hM1560, HB1562⟩
      refine hK35 _ _ ?_
      refine region_then fun K1563 QK1563 hK1563 => ?_
      refine s_call hM1560 (.inl rfl) rfl rfl (f := 28) (args := #[]) (ev_call hM1560 rfl rfl rfl (fun w => by simp [go_sem]) _) (law8_wakes _) (fun e w1564 hp => ?_)
      obtain ⟨rfl, hb1565⟩ := hp
      refine ⟨_, rfl, fun a1567 hM1566 => ?_⟩
      clear hM1560
      have HB1568 := hide (below_then HB1562.out hb1565)
      clear hb1565 HB1562
      refine s_val hM1566 (.inl rfl) rfl rfl (ev_move (.inr rfl) rfl) (fun a1570 hM1569 => ?_)
      clear hM1566
      refine seg_nil (hK1563 _ _ ?_)
      clear hK1563 K1563 QK1563
      have hM1571 := hM1569.cut1 (t1 := 2) rfl
      clear hM1569
      refine wp_ret ?_
      repeat (with_reducible first | refine th_r ?_ | refine inb_r ?_ | refine js_r ?_ | refine jq_r ?_)
      refine ret_of (t := 2) rfl hM1571 rfl ?_
      exact ⟨rfl, below_then HB00.out HB1568.out⟩
end Go.Proofs.Ytebaojcfmkobjaa
