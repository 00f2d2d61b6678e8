/-
  Texts joined: words and contracts that later texts use; lemmas alone, no conditions of a statement.
-/
import Derived.Test.YtflamhndmggiaaaGr18
set_option linter.unusedVariables false
set_option linter.unusedSimpArgs false
/-
  The reference net's Take.
-/
namespace Go.Proofs.Ytflamhndmggiaaa
open Go.RowKit

def takeC (S : Int × Int → List (List UInt8)) (a b k : Int) : Int := if 0 ≤ k ∧ k < ((S (a, b)).length : Int) then 0 else 3
def takeX (S : Int × Int → List (List UInt8)) (a b k : Int) : List UInt8 := if 0 ≤ k ∧ k < ((S (a, b)).length : Int) then ((S (a, b))[k.toNat]?).getD [] else []
def takeS (S : Int × Int → List (List UInt8)) (a b k : Int) : (Int × Int → List (List UInt8)) := if 0 ≤ k ∧ k < ((S (a, b)).length : Int) then updF S (a, b) ((S (a, b)).eraseIdx k.toNat) else S
theorem ev_slice_h {P : Program} {M : List (Nat × Value)} {o : Oper} {w : World} {t : TypeId} {x hi : Operand} {A : Option Addr} {n c k : Nat} (ho : o.op = .slice t x none (some hi) none) (hx : opv M x = some (.slice A n c)) (hl : opv M hi = some (.int .i64 (k : Int)))
    (hu : P.underlying t = some (.slice (P.elem t))) (hz : ∀ w, (sizeOf (P.elem t)).run P w = .ok 1 w) (hk : k ≤ c) : Ev P M o w (.slice A k c) := fun a m hM => by
  have h1 := run_slice_h (P := P) (w := w) t A n c hu .i64 (k : Int) (by omega) (by omega)
  rw [hz] at h1
  simp only [Result.andThen_ok, Int.toNat_natCast] at h1
  simp only [execOp, ho, hM.evo hx, hM.evo hl, Option.map_some, Option.map_none]
  have e : (if c = 0 then A else A.map (·.add (0 * 1))) = A := by
    split
    · rfl
    · cases A with
      | none => rfl
      | some a => simp [Addr.add]
  simp [Sem.run_bind, run_sliceAt_slice, hu, h1, sliced] at e ⊢
  exact e
theorem Sl.dropv {w : World} {A : Option Addr} {n c k : Nat} {cs : List Value} (h : Sl w 1 A n cs) (hk : k ≤ n) (hc : n ≤ c) : Sl w 1 (dropA A c k) (n - k) (cs.drop k) := by
  refine ⟨by rw [List.length_drop, h.1]; omega, fun hn => ?_⟩
  obtain ⟨b, off, e, hb, hcell⟩ := h.2 (by omega)
  refine ⟨b, off + k, ?_, hb, fun j u hu => ?_⟩
  · unfold dropA
    rw [if_neg (by omega), e]
    simp only [Option.map_some, add_lit, Nat.mul_one]
  · rw [show off + k + j = off + (k + j) by omega]
    exact hcell (k + j) u (by rw [← hu, List.getElem?_drop])
section
variable {F : Nat → Prop} {w w3 w4 : World} {r : Nat} {Vl : Value} {ws : List RW} {S : Int × Int → List (List UInt8)} {fa fb : Int} {k i : Nat} {x : RW}
theorem RfJ.els (h : RfJ F w r Vl ws) (hx : x ∈ ws) : ElS w x.es := fun p hp => by
  have ho := h.el x hx p hp
  obtain ⟨A, c, e, h1, h2⟩ := own_slice_cap ho
  rw [e] at ho
  exact ⟨A, c, e, Sl.of_own ho, h.sm x p hx hp⟩
theorem rf_take_end {g c kn m : Nat} {V6 : Value} {es5 : List (Value × List UInt8)} (h : RfJ F w r Vl ws) (hl : LookW ws S) (hf : FirstW ws fa fb i x) (hk : ws.length ≤ k) (hA : Vl = .slice (some ⟨g, 0, none⟩) ws.length c) (hb : Below w.heap.size w w3) (hkn : kn < x.es.length)
    (o6 : w3.ownsRow w.heap.size 28 1 V6 m (es5.map (·.1) ++ (x.es.drop (kn + 1)).map (·.1))) (hq5 : ElO w3 w.heap.size es5) (ht5 : es5.map (·.2) = (x.es.take kn).map (·.2)) (hg : w3.grownBy w4 (some g)) (o4 : ∀ es, w4.ownsRow 0 120 3 Vl ws.length (rwsC (ws.set i ⟨x.a, x.b, V6, es⟩))) :
    RfN F w w4 r k (updF S (fa, fb) ((S (fa, fb)).eraseIdx kn)) := by
  have hxm := mem_of_at hf.at_
  have hlen : es5.length = kn := by
    have := congrArg List.length ht5
    rw [List.length_map, List.length_map, List.length_take] at this
    omega
  have hm : (es5 ++ x.es.drop (kn + 1)).length = m := by
    have := o6.1
    rw [List.length_append, List.length_map, List.length_map] at this
    rw [List.length_append]; omega
  have hcn := h.cnt x hxm
  obtain ⟨k1, k2⟩ := h.put (V := V6) (es := es5 ++ x.es.drop (kn + 1)) hf.at_ hA (Chg.of_below hb) (by rw [hm, List.map_append]; exact own_mono o6 (Nat.zero_le _)) (fun p hp => by
      rcases List.mem_append.1 hp with hp | hp
      · exact own_mono (hq5 p hp) (Nat.zero_le _)
      · exact own_later (h.el x hxm p (List.mem_of_mem_drop hp)) hb)
    (fun b hb' => .inr (o6.lt b hb').1)
    (fun p hp b hb' => by
      rcases List.mem_append.1 hp with hp | hp
      · exact .inr ((hq5 p hp).lt b hb').1
      · exact .inl (h.fel x p b hxm (List.mem_of_mem_drop hp) hb'))
    (by rw [List.length_append, hlen, List.length_drop]; omega) (fun p hp => by
      rcases List.mem_append.1 hp with hp | hp
      · have h1 : p.2 ∈ (x.es.take kn).map (·.2) := by rw [← ht5]; exact List.mem_map_of_mem hp
        obtain ⟨q, hq, e⟩ := List.mem_map.1 h1
        rw [← e]
        exact h.sm x q hxm (List.mem_of_mem_take hq)
      · exact h.sm x p hxm (List.mem_of_mem_drop hp)) hg (o4 _)
  refine ⟨_, Vl, _, k1, ?_, by rw [List.length_set]; exact hk, fun q hq => hq.elim .inl (fun h => .inr h.1), k2⟩
  have hL := hl.set_ hf V6 (es5 ++ x.es.drop (kn + 1))
  rw [List.map_append, ht5, ← List.map_append, ← List.eraseIdx_eq_take_drop_succ, ChangeMaps.map_eraseIdx, ← (hl fa fb).2 i x hf] at hL
  exact hL
end

set_option maxRecDepth 100000 in
set_option maxHeartbeats 4000000 in
theorem rf_Take {F : Nat → Prop} {w : World} {r : Nat} {Vl : Value} {ws : List RW} (fa fb : Int) (h : RfJ F w r Vl ws) {S : Int × Int → List (List UInt8)} {k : Nat} (kk : Int) (hl : LookW ws S) (hk : ws.length ≤ k) :
    Calls Try.prog 51 #[.pointer (some ⟨r, 0, none⟩), .int .i64 fa, .int .i64 fb, .int .i64 kk] w fun e w' => ∃ A1 c1, e = .returned (.tuple #[.slice A1 (takeX S fa fb kk).length c1, .int .i64 (takeC S fa fb kk)]) ∧ Sl w' 1 A1 (takeX S fa fb kk).length (bytes8 (takeX S fa fb kk)) ∧ RfN F w w' r k (takeS S fa fb kk) := by
  have ho := h.own
  obtain ⟨A, c, rfl, hcap, hmax⟩ := own_slice_cap ho
  unfold maxLen at hmax
  clear ho
  have HJ := hide h
  have HK := hide h.k.rng
  have HL := hide hl
  clear h hl
  go_enter Try.func51, Try.ntmps51
  refine act_off 59 [(0, .pointer (some ⟨r, 0, none⟩)), (1, .int .i64 fa), (2, .int .i64 fb), (3, .int .i64 kk)] (Frm.start rfl (by intro p hp; simp only [List.mem_cons, List.not_mem_nil, or_false] at hp; rcases hp with rfl | rfl | rfl | rfl <;> rfl)) (fun a0 hM => ?_)
  have HB2 : Hid (Below w.heap.size w w) := Below.refl _ _
  refine region_then fun K3 QK3 hK3 => ?_
  refine s_val hM (.inl rfl) rfl rfl (ev_move (.inr rfl) rfl) (fun a5 hM4 => ?_)
  clear hM
  refine s_val hM4 (.inl rfl) rfl rfl (ev_move (.inr rfl) rfl) (fun a7 hM6 => ?_)
  clear hM4
  refine seg_nil (hK3 _ _ ?_)
  clear hK3 K3 QK3
  have hM8 := hM6.cut6 (t1 := 0) (t2 := 1) (t3 := 2) (t4 := 3) (t5 := 8) (t6 := 9) rfl rfl rfl rfl rfl rfl
  clear hM6
  refine wp_seq_k fun K9 hK9 => ?_
  by_cases hk0 : kk < 0
  case pos =>
    have hno : ¬ (0 ≤ kk ∧ kk < ((S (fa, fb)).length : Int)) := by omega
    refine region_then fun K10 QK10 hK10 => ?_
    refine s_val hM8 (.inl rfl) rfl rfl (ev_move (.inl rfl) rfl) (fun a12 hM11 => ?_)
    clear hM8
    refine s_val hM11 (.inl rfl) rfl rfl (ev_bin rfl rfl rfl g_int (b_lss (b := true) (decide_eq_true hk0))) (fun a14 hM13 => ?_)
    clear hM11
    refine s_val hM13 (.inl rfl) rfl rfl (ev_move (.inl rfl) rfl) (fun a16 hM15 => ?_)
    clear hM13
    refine s_skip hM15 rfl rfl rfl rfl rfl rfl (fun a18 hM17 => ?_)
    clear hM15
    refine s_skip hM17 rfl rfl rfl rfl rfl rfl (fun a20 hM19 => ?_)
    clear hM17
    refine s_skip hM19 rfl rfl rfl rfl rfl rfl (fun a22 hM21 => ?_)
    clear hM19
    refine s_skip hM21 rfl rfl rfl rfl rfl rfl (fun a24 hM23 => ?_)
    clear hM21
    refine s_skip hM23 rfl rfl rfl rfl rfl rfl (fun a26 hM25 => ?_)
    clear hM23
    refine s_skip hM25 rfl rfl rfl rfl rfl rfl (fun a28 hM27 => ?_)
    clear hM25
    refine s_val hM27 (.inl rfl) rfl rfl (ev_pick rfl rfl rfl) (fun a30 hM29 => ?_)
    clear hM27
    refine seg_nil (hK10 _ _ ?_)
    clear hK10 K10 QK10
    have hM31 := hM29.cut5 (t1 := 0) (t2 := 1) (t3 := 2) (t4 := 3) (t5 := 22) rfl rfl rfl rfl rfl
    clear hM29
    refine wp_cond_true (hM31.ev (t := 22) rfl) ?_
    refine region_then fun K32 QK32 hK32 => ?_
    refine s_val hM31 (.inl rfl) rfl rfl (ev_move (.inr rfl) rfl) (fun a34 hM33 => ?_)
    clear hM31
    refine s_val hM33 (.inl rfl) rfl rfl (ev_move (.inr rfl) rfl) (fun a36 hM35 => ?_)
    clear hM33
    refine seg_nil (hK32 _ _ ?_)
    clear hK32 K32 QK32
    have hM37 := hM35.cut2 (t1 := 8) (t2 := 9) rfl rfl
    clear hM35
    refine wp_ret ?_
    repeat (with_reducible first | refine th_r ?_ | refine inb_r ?_ | refine js_r ?_)
    refine ret2_of (t := 8) (s := 9) rfl hM37 rfl rfl ?_
    unfold takeX takeC takeS
    rw [if_neg hno, if_neg hno, if_neg hno]
    exact ⟨none, 0, rfl, Sl.nil_, rn_same HJ.out HL.out hk HB2.out⟩
  case neg =>
    by_cases hk1 : ((S (fa, fb)).length : Int) ≤ kk
    case pos =>
      have hno : ¬ (0 ≤ kk ∧ kk < ((S (fa, fb)).length : Int)) := by omega
      refine region_then fun K38 QK38 hK38 => ?_
      refine s_val hM8 (.inl rfl) rfl rfl (ev_move (.inl rfl) rfl) (fun a40 hM39 => ?_)
      clear hM8
      refine s_val hM39 (.inl rfl) rfl rfl (ev_bin rfl rfl rfl g_int (b_lss (b := false) (decide_eq_false hk0))) (fun a42 hM41 => ?_)
      clear hM39
      refine s_val hM41 (.inl rfl) rfl rfl (ev_move (.inl rfl) rfl) (fun a44 hM43 => ?_)
      clear hM41
      refine s_val hM43 (.inr ⟨_, _, _, rfl, rfl, rfl⟩) rfl rfl (ev_move (.inl rfl) rfl) (fun a46 hM45 => ?_)
      clear hM43
      refine s_val hM45 (.inr ⟨_, _, _, rfl, rfl, rfl⟩) rfl rfl (ev_move (.inl rfl) rfl) (fun a48 hM47 => ?_)
      clear hM45
      refine s_val hM47 (.inr ⟨_, _, _, rfl, rfl, rfl⟩) rfl rfl (ev_move (.inl rfl) rfl) (fun a50 hM49 => ?_)
      clear hM47
      refine s_val hM49 (.inr ⟨_, _, _, rfl, rfl, rfl⟩) rfl rfl (ev_move (.inl rfl) rfl) (fun a52 hM51 => ?_)
      clear hM49
      refine s_call hM51 (.inr ⟨_, _, _, rfl, rfl, rfl⟩) rfl rfl (f := 56) (args := #[.pointer (some ⟨r, 0, none⟩), .int .i64 fa, .int .i64 fb]) (ev_call hM51 rfl rfl rfl (fun w => by simp [go_sem]) _) (rf_Count fa fb (HJ.out.below HB2.out) HL.out) (fun e w53 hp => ?_)
      obtain ⟨rfl, rfl⟩ := hp
      refine ⟨_, rfl, fun a56 hM55 => ?_⟩
      clear hM51
      refine s_val hM55 (.inr ⟨_, _, _, rfl, rfl, rfl⟩) rfl rfl (ev_bin rfl rfl rfl g_int (b_geq (b := true) (decide_eq_true hk1))) (fun a58 hM57 => ?_)
      clear hM55
      refine s_val hM57 (.inl rfl) rfl rfl (ev_pick rfl rfl rfl) (fun a60 hM59 => ?_)
      clear hM57
      refine seg_nil (hK38 _ _ ?_)
      clear hK38 K38 QK38
      have hM61 := hM59.cut5 (t1 := 0) (t2 := 1) (t3 := 2) (t4 := 3) (t5 := 22) rfl rfl rfl rfl rfl
      clear hM59
      refine wp_cond_true (hM61.ev (t := 22) rfl) ?_
      refine region_then fun K62 QK62 hK62 => ?_
      refine s_val hM61 (.inl rfl) rfl rfl (ev_move (.inr rfl) rfl) (fun a64 hM63 => ?_)
      clear hM61
      refine s_val hM63 (.inl rfl) rfl rfl (ev_move (.inr rfl) rfl) (fun a66 hM65 => ?_)
      clear hM63
      refine seg_nil (hK62 _ _ ?_)
      clear hK62 K62 QK62
      have hM67 := hM65.cut2 (t1 := 8) (t2 := 9) rfl rfl
      clear hM65
      refine wp_ret ?_
      repeat (with_reducible first | refine th_r ?_ | refine inb_r ?_ | refine js_r ?_)
      refine ret2_of (t := 8) (s := 9) rfl hM67 rfl rfl ?_
      unfold takeX takeC takeS
      rw [if_neg hno, if_neg hno, if_neg hno]
      exact ⟨none, 0, rfl, Sl.nil_, rn_same HJ.out HL.out hk HB2.out⟩
    case neg =>
      obtain ⟨kn, rfl⟩ : ∃ q : Nat, kk = q := ⟨kk.toNat, by omega⟩
      obtain ⟨i, x, hf⟩ : ∃ i x, FirstW ws fa fb i x := by
        rcases way_cases ws fa fb with hn | h
        · have := (HL.out fa fb).1 hn
          rw [this] at hk1
          simp at hk1
        · exact h
      have hSl := (HL.out fa fb).2 i x hf
      have hSn : (S (fa, fb)).length = x.es.length := by rw [hSl, List.length_map]
      have HW : Hid (IsWay ws fa fb (i : Int)) := .inr ⟨i, x, rfl, hf⟩
      have hkn : kn < x.es.length := by omega
      have hyes : 0 ≤ (kn : Int) ∧ (kn : Int) < ((S (fa, fb)).length : Int) := by omega
      have hj := (HJ.out.below HB2.out)
      obtain ⟨g, cg, cur, eg, _, hrg, _, hcur, hcsz, hset⟩ := hj.at_ hf.at_
      have hAx : A = some ⟨g, 0, none⟩ := by injection eg
      have HRx := hide hrg
      have HCU := hide hcur
      obtain ⟨Ax, cx, hxv, hxc, hxm, hxs⟩ := hj.vrow (mem_of_at hf.at_)
      have HXS := hide hxs
      have HES := hide (hj.els (mem_of_at hf.at_))
      have hlt1 := (List.getElem?_eq_some_iff.1 hf.at_).1
      have hcx := hj.cnt x (mem_of_at hf.at_)
      clear hrg hxs hcur
      have HB69 : Hid (Below w.heap.size w w) := Below.refl _ _
      obtain ⟨p, hp⟩ : ∃ p, x.es[kn]? = some p := ⟨_, List.getElem?_eq_getElem (by omega)⟩
      obtain ⟨gx, ox, hAxx, hgx, hcl⟩ := HXS.out.2 (by omega)
      obtain ⟨Ap, cp, hpv, hps, hpl⟩ := HES.out p (mem_of_at hp)
      have HRe : Hid (Rng w gx (ox + kn) #[.slice Ap p.2.length cp]) := ⟨hgx, fun q u hq => by
        have hq0 : q = 0 := by have := (Array.getElem?_eq_some_iff.1 hq).1; simpa using this
        subst hq0
        obtain rfl := Option.some.inj hq
        rw [← hpv]
        exact hcl kn _ (by rw [List.getElem?_map, hp]; rfl)⟩
      have HSP := hide hps
      clear hcl hps
      refine region_then fun K70 QK70 hK70 => ?_
      refine s_val hM8 (.inl rfl) rfl rfl (ev_move (.inl rfl) rfl) (fun a72 hM71 => ?_)
      clear hM8
      refine s_val hM71 (.inl rfl) rfl rfl (ev_bin rfl rfl rfl g_int (b_lss (b := false) (by rw [decide_eq_false_iff_not]; omega))) (fun a74 hM73 => ?_)
      clear hM71
      refine s_val hM73 (.inl rfl) rfl rfl (ev_move (.inl rfl) rfl) (fun a76 hM75 => ?_)
      clear hM73
      refine s_val hM75 (.inr ⟨_, _, _, rfl, rfl, rfl⟩) rfl rfl (ev_move (.inl rfl) rfl) (fun a78 hM77 => ?_)
      clear hM75
      refine s_val hM77 (.inr ⟨_, _, _, rfl, rfl, rfl⟩) rfl rfl (ev_move (.inl rfl) rfl) (fun a80 hM79 => ?_)
      clear hM77
      refine s_val hM79 (.inr ⟨_, _, _, rfl, rfl, rfl⟩) rfl rfl (ev_move (.inl rfl) rfl) (fun a82 hM81 => ?_)
      clear hM79
      refine s_val hM81 (.inr ⟨_, _, _, rfl, rfl, rfl⟩) rfl rfl (ev_move (.inl rfl) rfl) (fun a84 hM83 => ?_)
      clear hM81
      refine s_call hM83 (.inr ⟨_, _, _, rfl, rfl, rfl⟩) rfl rfl (f := 56) (args := #[.pointer (some ⟨r, 0, none⟩), .int .i64 fa, .int .i64 fb]) (ev_call hM83 rfl rfl rfl (fun w => by simp [go_sem]) _) (rf_Count fa fb (HJ.out.below HB2.out) HL.out) (fun e w85 hp => ?_)
      obtain ⟨rfl, rfl⟩ := hp
      refine ⟨_, rfl, fun a88 hM87 => ?_⟩
      clear hM83
      refine s_val hM87 (.inr ⟨_, _, _, rfl, rfl, rfl⟩) rfl rfl (ev_bin rfl rfl rfl g_int (b_geq (b := false) (decide_eq_false hk1))) (fun a90 hM89 => ?_)
      clear hM87
      refine s_val hM89 (.inl rfl) rfl rfl (ev_pick rfl rfl rfl) (fun a92 hM91 => ?_)
      clear hM89
      refine seg_nil (hK70 _ _ ?_)
      clear hK70 K70 QK70
      have hM93 := hM91.cut5 (t1 := 0) (t2 := 1) (t3 := 2) (t4 := 3) (t5 := 22) rfl rfl rfl rfl rfl
      clear hM91
      refine wp_cond_false (hM93.ev (t := 22) rfl) ?_
      refine wp_skip ?_
      refine hK9 _ _ ?_
      refine q_open (by kernel_rfl) (by kernel_rfl) fun K94 hK94 => ?_
      refine q_val hM93 (.inl rfl) rfl rfl (fun m => (ev_move (.inl rfl) rfl)) (fun a96 hM95 => ?_)
      clear hM93
      refine q_val hM95 (.inl rfl) rfl rfl (fun m => (ev_nilc rfl rfl)) (fun a98 hM97 => ?_)
      clear hM95
      refine q_val hM97 (.inl rfl) rfl rfl (fun m => (ev_fldw (m := 0) rfl rfl (fun w => by simp [go_sem]))) (fun a100 hM99 => ?_)
      clear hM97
      refine q_val hM99 (.inl rfl) rfl rfl (fun m => (ev_load1 (v := .slice A (ws.length) c) rfl rfl (((HK.out.below HB2.out).below (Wd.below m)).at_ (m := 0) rfl) (isAgg_no Try.underlying76 rfl))) (fun a102 hM101 => ?_)
      clear hM99
      refine q_val hM101 (.inl rfl) rfl rfl (fun m => (ev_move (.inl rfl) rfl)) (fun a104 hM103 => ?_)
      clear hM101
      refine q_val hM103 (.inl rfl) rfl rfl (fun m => (ev_move (.inl rfl) rfl)) (fun a106 hM105 => ?_)
      clear hM103
      refine q_val hM105 (.inl rfl) rfl rfl (fun m => (ev_move (.inl rfl) rfl)) (fun a108 hM107 => ?_)
      clear hM105
      refine q_call hM107 (.inl rfl) rfl rfl (f := 76) (args := #[.pointer (some ⟨r, 0, none⟩), .int .i64 fa, .int .i64 fb]) (v := .int .i64 ((i : Int))) (ev_call hM107 rfl rfl rfl (fun w => by simp [go_sem])) (fun m => wd_same (rf_way fa fb ((HJ.out.below HB2.out).below (Wd.below m)) HW.out)) (fun a110 hM109 => ?_)
      clear hM107
      refine q_val hM109 (.inl rfl) rfl rfl (fun m => (ev_idx (b := g) (off := 0) (k := i) (sz := 3) (p := i * 3) rfl (by rw [← hAx]; rfl) rfl Try.underlying76 (by kernel_rfl) (by omega) (by omega))) (fun a112 hM111 => ?_)
      clear hM109
      refine q_val hM111 (.inl rfl) rfl rfl (fun m => (ev_move (.inr rfl) rfl)) (fun a114 hM113 => ?_)
      clear hM111
      refine wpQuiet_nil (hK94 _ fun w115 hb116 => ?_)
      clear hK94 K94
      have HB117 := hide (below_then HB2.out hb116)
      have HB118 := hide (below_then HB69.out hb116)
      clear hb116 HB2 HB69
      have hM119 := hM113.cut5 (t1 := 0) (t2 := 1) (t3 := 2) (t4 := 3) (t5 := 10) rfl rfl rfl rfl rfl
      clear hM113
      refine region_then fun K120 QK120 hK120 => ?_
      refine s_val hM119 (.inl rfl) rfl rfl (ev_move (.inl rfl) rfl) (fun a122 hM121 => ?_)
      clear hM119
      refine s_val hM121 (.inl rfl) rfl rfl (ev_nilc rfl rfl) (fun a124 hM123 => ?_)
      clear hM121
      refine s_val hM123 (.inl rfl) rfl rfl (ev_fldw (m := i * 3 + 2) rfl rfl (fun w => by simp [go_sem])) (fun a126 hM125 => ?_)
      clear hM123
      refine s_val hM125 (.inl rfl) rfl rfl (ev_load1 (v := .slice Ax x.es.length cx) rfl rfl (by rw [← hxv]; exact ((HRx.out.below HB118.out)).at_ (m := 2) rfl) (isAgg_no Try.underlying57 rfl)) (fun a128 hM127 => ?_)
      clear hM125
      refine s_val hM127 (.inl rfl) rfl rfl (ev_move (.inl rfl) rfl) (fun a130 hM129 => ?_)
      clear hM127
      refine s_val hM129 (.inl rfl) rfl rfl (ev_idx (b := gx) (off := ox) (k := kn) (sz := 1) (p := ox + kn) rfl (by rw [← hAxx]; rfl) rfl Try.underlying57 (by kernel_rfl) (by omega) (by omega)) (fun a132 hM131 => ?_)
      clear hM129
      refine s_val hM131 (.inl rfl) rfl rfl (ev_load1 (v := .slice Ap (p.2.length) cp) rfl rfl ((HRe.out.below HB118.out).at_ (m := 0) rfl) (isAgg_no Try.underlying28 rfl)) (fun a134 hM133 => ?_)
      clear hM131
      refine s_val hM133 (.inl rfl) rfl rfl (ev_move (.inr rfl) rfl) (fun a136 hM135 => ?_)
      clear hM133
      refine seg_nil (hK120 _ _ ?_)
      clear hK120 K120 QK120
      have hM137 := hM135.cut6 (t1 := 0) (t2 := 1) (t3 := 2) (t4 := 3) (t5 := 10) (t6 := 11) rfl rfl rfl rfl rfl rfl
      clear hM135
      refine region_then fun K138 QK138 hK138 => ?_
      refine s_val hM137 (.inl rfl) rfl rfl (ev_move (.inl rfl) rfl) (fun a140 hM139 => ?_)
      clear hM137
      refine s_val hM139 (.inl rfl) rfl rfl (ev_nilc rfl rfl) (fun a142 hM141 => ?_)
      clear hM139
      refine s_val hM141 (.inl rfl) rfl rfl (ev_fldw (m := i * 3 + 2) rfl rfl (fun w => by simp [go_sem])) (fun a144 hM143 => ?_)
      clear hM141
      refine s_val hM143 (.inl rfl) rfl rfl (ev_load1 (v := .slice Ax x.es.length cx) rfl rfl (by rw [← hxv]; exact ((HRx.out.below HB118.out)).at_ (m := 2) rfl) (isAgg_no Try.underlying57 rfl)) (fun a146 hM145 => ?_)
      clear hM143
      refine s_val hM145 (.inl rfl) rfl rfl (ev_move (.inl rfl) rfl) (fun a148 hM147 => ?_)
      clear hM145
      refine s_val hM147 (.inl rfl) rfl rfl (ev_slice_h (k := kn) rfl rfl rfl (by kernel_rfl) (fun w => by kernel_rfl) (by omega)) (fun a150 hM149 => ?_)
      clear hM147
      have hW := (HB117.out).size
      have hs5 : Sl w115 1 Ax kn ((x.es.take kn).map (·.1)) := by
        have := ((HXS.out.below HB118.out)).take (k := kn) (by omega)
        rwa [Nat.mul_one, ← List.map_take] at this
      refine s_call hM149 (.inl rfl) rfl rfl (f := 77) (args := #[.slice Ax kn cx]) (ev_call hM149 rfl rfl rfl (fun w => by simp [go_sem]) _) (ref0_CopyCells (es := x.es.take kn) _ hs5 (fun q hq => ((HES.out.below HB118.out)) q (List.mem_of_mem_take hq)) (by omega)) (fun e w151 hp => ?_)
      obtain ⟨v5, es5, rfl, ho5, hq5, ht5, hb152⟩ := hp
      obtain ⟨A5, c5, rfl⟩ := own_slice ho5
      have HO5 : Hid (OwnR w151 w.heap.size 28 1 (.slice A5 kn c5) kn (es5.map (·.1))) := own_mono ho5 hW
      have HQ5 : Hid (ElO w151 w.heap.size es5) := fun q hq => own_mono (hq5 q hq) hW
      have HT5 := hide ht5
      clear ho5 hq5 ht5 hs5 hW
      refine ⟨_, rfl, fun a154 hM153 => ?_⟩
      clear hM149
      have HB155 := hide (below_then HB117.out hb152)
      have HB156 := hide (below_then HB118.out hb152)
      clear hb152 HB117 HB118
      have HB158 : Hid (Below w151.heap.size w151 w151) := Below.refl _ _
      refine s_val hM153 (.inl rfl) rfl rfl (ev_move (.inr rfl) rfl) (fun a160 hM159 => ?_)
      clear hM153
      refine seg_nil (hK138 _ _ ?_)
      clear hK138 K138 QK138
      have hM161 := hM159.cut7 (t1 := 0) (t2 := 1) (t3 := 2) (t4 := 3) (t5 := 10) (t6 := 11) (t7 := 12) rfl rfl rfl rfl rfl rfl rfl
      clear hM159
      refine region_then fun K162 QK162 hK162 => ?_
      refine s_val hM161 (.inl rfl) rfl rfl (ev_move (.inl rfl) rfl) (fun a164 hM163 => ?_)
      clear hM161
      refine s_val hM163 (.inl rfl) rfl rfl (ev_move (.inl rfl) rfl) (fun a166 hM165 => ?_)
      clear hM163
      refine s_val hM165 (.inl rfl) rfl rfl (ev_move (.inl rfl) rfl) (fun a168 hM167 => ?_)
      clear hM165
      refine s_val hM167 (.inl rfl) rfl rfl (ev_nilc rfl rfl) (fun a170 hM169 => ?_)
      clear hM167
      refine s_val hM169 (.inl rfl) rfl rfl (ev_fldw (m := i * 3 + 2) rfl rfl (fun w => by simp [go_sem])) (fun a172 hM171 => ?_)
      clear hM169
      refine s_val hM171 (.inl rfl) rfl rfl (ev_load1 (v := .slice Ax x.es.length cx) rfl rfl (by rw [← hxv]; exact ((HRx.out.below HB156.out)).at_ (m := 2) rfl) (isAgg_no Try.underlying57 rfl)) (fun a174 hM173 => ?_)
      clear hM171
      refine s_val hM173 (.inl rfl) rfl rfl (ev_move (.inl rfl) rfl) (fun a176 hM175 => ?_)
      clear hM173
      refine s_val hM175 (.inl rfl) rfl rfl (ev_bin rfl rfl rfl g_int (b_add (r := ((kn + 1 : Nat) : Int)) (by omega) (by omega))) (fun a178 hM177 => ?_)
      clear hM175
      refine s_val hM177 (.inl rfl) rfl rfl (ev_slice_l (k := kn + 1) rfl rfl rfl (by kernel_rfl) (fun w => by kernel_rfl) (by omega)) (fun a180 hM179 => ?_)
      clear hM177
      obtain ⟨i0, hi0, hz0, hz1, hz2⟩ := info_parts info_bs
      have hO := (HO5.out.below HB158.out)
      have hQ := (HQ5.out.below HB158.out)
      have hbW := HB155.out
      have hJ6 := (HJ.out.below HB155.out)
      have hcu6 := (HCU.out.on HB156.out)
      have hsD : Sl w151 1 (dropA Ax cx (kn + 1)) (x.es.length - (kn + 1)) ((x.es.drop (kn + 1)).map (·.1)) := by
        rw [List.map_drop]
        exact ((HXS.out.below HB156.out)).dropv (by omega) hxc
      refine s_append_any hM179 (.inl rfl) rfl rfl rfl w.heap.size 28 i0 _ 1 24 Try.underlying57 hi0 hz0 hz1 hz2 rfl (by decide) kn (List.map (fun q : Value × List UInt8 => q.1) es5) rfl hO (dropA Ax cx (kn + 1)) (x.es.length - (kn + 1)) (cx - (kn + 1)) (List.map (fun q : Value × List UInt8 => q.1) (x.es.drop (kn + 1))) rfl hsD (fun u hu => vals_rw hJ6 (mem_of_at hf.at_) u (by obtain ⟨q, hq, rfl⟩ := List.mem_map.1 hu; exact List.mem_map_of_mem (List.mem_of_mem_drop hq))) (by unfold maxLen; omega) (by omega) hbW.size (fun V2 a182 w183 hM181 ho hgr => ?_)
      obtain ⟨A6, c6, rfl⟩ := own_slice ho
      have hb6 := below_grown_own hbW hO hgr
      have hQ6 : ElO w183 w.heap.size es5 := fun q hq => own_at (hQ q hq) (fun b hb => hgr.block b (own_in (hQ q hq) hb) (fun e => own_two_ne (hQ q hq) hO (by decide) hb e.symm))
      have hcu7 := hcu6.grown hgr (Ne.symm (own_blk_ne hO hcu6 (by decide)))
      have HSP6 : Hid (Sl w183 1 Ap p.2.length (bytes8 p.2)) := HSP.out.below hb6
      clear hM179
      refine s_val hM181 (.inl rfl) rfl rfl (ev_nilc rfl rfl) (fun a185 hM184 => ?_)
      clear hM181
      refine s_val hM184 (.inl rfl) rfl rfl (ev_fldw (m := i * 3 + 2) rfl rfl (fun w => by simp [go_sem])) (fun a187 hM186 => ?_)
      clear hM184
      refine s_put (v := .slice A6 (kn + (x.es.length - (kn + 1))) c6) hM186 rfl rfl rfl rfl rfl hcu7 hcsz (st_slice Try.underlying57 (by kernel_rfl)) (fun w188 kd hg => ?_)
      have HR := hide (rf_take_end HJ.out HL.out hf hk (by rw [hAx]) hb6 hkn ho hQ6 HT5.out hg (fun es => hset w188 _ es kd))
      have HSR : Hid (Sl w188 1 Ap p.2.length (bytes8 p.2)) := HSP6.out.chg (Chg.of_grown (F := fun b => b = g) hg (fun b e => .inl (by injection e with e; exact e.symm))) (fun hn b off e hbg => by
        have o := HJ.out.el x (mem_of_at hf.at_) p (mem_of_at hp)
        rw [hpv, e] at o
        exact own_two_ne o HJ.out.own (by decide) (show _ = some b from by simp [Value.ownBlock]) (by rw [hAx, hbg]; rfl))
      clear hO hQ hbW hJ6 hcu6 hsD ho hb6 hQ6 hcu7 hgr kd hg HSP6 HO5 HQ5 HCU HES HXS HRx HRe HSP HB155 HB156 HB158
      have HB190 : Hid (Below w188.heap.size w188 w188) := Below.refl _ _
      refine seg_nil (hK162 _ _ ?_)
      clear hK162 K162 QK162
      have hM191 := hM186.cut1 (t1 := 11) rfl
      clear hM186
      refine region_then fun K192 QK192 hK192 => ?_
      refine s_val hM191 (.inl rfl) rfl rfl (ev_move (.inl rfl) rfl) (fun a194 hM193 => ?_)
      clear hM191
      refine s_val hM193 (.inl rfl) rfl rfl (ev_move (.inr rfl) rfl) (fun a196 hM195 => ?_)
      clear hM193
      refine s_val hM195 (.inl rfl) rfl rfl (ev_move (.inr rfl) rfl) (fun a198 hM197 => ?_)
      clear hM195
      refine seg_nil (hK192 _ _ ?_)
      clear hK192 K192 QK192
      have hM199 := hM197.cut2 (t1 := 8) (t2 := 9) rfl rfl
      clear hM197
      refine wp_ret ?_
      repeat (with_reducible first | refine th_r ?_ | refine inb_r ?_ | refine js_r ?_)
      refine ret2_of (t := 8) (s := 9) rfl hM199 rfl rfl ?_
      have hx : ((S (fa, fb))[(kn : Int).toNat]?).getD [] = p.2 := by rw [Int.toNat_natCast, hSl, List.getElem?_map, hp]; rfl
      unfold takeX takeC takeS
      rw [if_pos hyes, if_pos hyes, if_pos hyes, hx, Int.toNat_natCast]
      exact ⟨Ap, cp, rfl, HSR.out, HR.out⟩
end Go.Proofs.Ytflamhndmggiaaa
/-
  The reference net's Clear, Double.
-/
namespace Go.Proofs.Ytflamhndmggiaaa
open Go.RowKit

def clrA (b : Int) (S : Int × Int → List (List UInt8)) : (Int × Int → List (List UInt8)) := fun q => if q.2 = b then [] else S q
def clrX (b : Int) (j i : Nat) (x : RW) : RW := if i < j ∧ x.b = b then ⟨x.a, x.b, nilV, []⟩ else x
def clrW (ws : List RW) (b : Int) (j : Nat) : List RW := ws.mapIdx (clrX b j)
theorem clrW_len {ws : List RW} {b : Int} {j : Nat} : (clrW ws b j).length = ws.length := by unfold clrW; simp
theorem clrW_get {ws : List RW} {b : Int} {j i : Nat} : (clrW ws b j)[i]? = (ws[i]?).map (clrX b j i) := by unfold clrW; simp
theorem clrW_at {ws : List RW} {b : Int} {j : Nat} {x : RW} (h : ws[j]? = some x) : (clrW ws b j)[j]? = some x := by
  rw [clrW_get, h, Option.map_some, clrX, if_neg (fun h => Nat.lt_irrefl _ h.1)]
theorem clrW_set {ws : List RW} {b : Int} {j : Nat} {x : RW} (h : ws[j]? = some x) (hb : x.b = b) : (clrW ws b j).set j ⟨x.a, x.b, nilV, []⟩ = clrW ws b (j + 1) := by
  refine List.ext_getElem? fun i => ?_
  have hj := (List.getElem?_eq_some_iff.1 h).1
  by_cases hij : j = i
  · subst hij
    rw [List.getElem?_set_self (by rw [clrW_len]; exact hj), clrW_get, h, Option.map_some, clrX, if_pos ⟨Nat.lt_succ_self _, hb⟩]
  · rw [List.getElem?_set_ne hij, clrW_get, clrW_get]
    congr 1
    funext y
    unfold clrX
    have e : (i < j ∧ y.b = b) ↔ (i < j + 1 ∧ y.b = b) := by constructor <;> rintro ⟨h1, h2⟩ <;> exact ⟨by omega, h2⟩
    simp only [e]
theorem clrW_skip {ws : List RW} {b : Int} {j : Nat} {x : RW} (h : ws[j]? = some x) (hb : x.b ≠ b) : clrW ws b j = clrW ws b (j + 1) := by
  refine List.ext_getElem? fun i => ?_
  rw [clrW_get, clrW_get]
  by_cases hij : j = i
  · subst hij
    rw [h, Option.map_some, Option.map_some, clrX, clrX, if_neg (fun h => hb h.2), if_neg (fun h => hb h.2)]
  · congr 1
    funext y
    unfold clrX
    have e : (i < j ∧ y.b = b) ↔ (i < j + 1 ∧ y.b = b) := by constructor <;> rintro ⟨h1, h2⟩ <;> exact ⟨by omega, h2⟩
    simp only [e]
theorem clrW_0 {ws : List RW} {b : Int} : clrW ws b 0 = ws := by
  refine List.ext_getElem? fun i => ?_
  rw [clrW_get]
  cases ws[i]? with
  | none => rfl
  | some x => rw [Option.map_some, clrX, if_neg (fun h => Nat.not_lt_zero _ h.1)]
theorem clrX_a {b : Int} {j i : Nat} {x : RW} : (clrX b j i x).a = x.a := by unfold clrX; split <;> rfl
theorem clrX_b {b : Int} {j i : Nat} {x : RW} : (clrX b j i x).b = x.b := by unfold clrX; split <;> rfl
theorem LookW.clr {ws : List RW} {S : Int × Int → List (List UInt8)} {t : Int} {n : Nat} (h : LookW ws S) (hn : n = ws.length) : LookW (clrW ws t n) (clrA t S) := by
  subst hn
  intro a b
  have hpart : ∀ (j : Nat) (y : RW), ws[j]? = some y → (clrW ws t ws.length)[j]? = some (clrX t ws.length j y) := fun j y hy => by rw [clrW_get, hy]; rfl
  refine ⟨fun hN => ?_, fun i y hy => ?_⟩
  · have h1 : NoneW ws a b := fun j y hy e => hN j _ (hpart j y hy) (by rw [clrX_a, clrX_b]; exact e)
    unfold clrA
    split
    · rfl
    · exact (h a b).1 h1
  · have h1 := hy.at_
    rw [clrW_get] at h1
    obtain ⟨x, hx, rfl⟩ := Option.map_eq_some_iff.1 h1
    have hF : FirstW ws a b i x := ⟨hx, by have := hy.ha; rwa [clrX_a] at this, by have := hy.hb; rwa [clrX_b] at this, fun j z hj hz e => hy.first j _ hj (hpart j z hz) (by rw [clrX_a, clrX_b]; exact e)⟩
    have hi := (List.getElem?_eq_some_iff.1 hx).1
    unfold clrA clrX
    by_cases hb : b = t
    · rw [if_pos hb, if_pos ⟨hi, hF.hb.trans hb⟩]; rfl
    · rw [if_neg hb, if_neg (fun h => hb (hF.hb.symm.trans h.2))]
      exact (h a b).2 i x hF
def ClrJ (F : Nat → Prop) (w w' : World) (r : Nat) (Vl : Value) (ws : List RW) (b : Int) (j : Nat) : Prop := ∃ F', RfJ F' w' r Vl (clrW ws b j) ∧ (∀ q, F' q → F q ∨ w.heap.size ≤ q) ∧ Chg F w w'
theorem ClrJ.step {F F1 : Nat → Prop} {w w1 w2 : World} {r g c j : Nat} {Vl : Value} {ws : List RW} {b : Int} {x : RW} (h : RfJ F1 w1 r Vl (clrW ws b j)) (hF : ∀ q, F1 q → F q ∨ w.heap.size ≤ q) (hc : Chg F w w1) (hx : ws[j]? = some x) (hb : x.b = b) (hg : Vl = .slice (some ⟨g, 0, none⟩) (clrW ws b j).length c)
    (hg2 : w1.grownBy w2 (some g)) (o : ∀ es, w2.ownsRow 0 120 3 Vl (clrW ws b j).length (rwsC ((clrW ws b j).set j ⟨x.a, x.b, .slice none 0 0, es⟩))) : ClrJ F w w2 r Vl ws b (j + 1) := by
  obtain ⟨k1, k2⟩ := h.put (V := nilV) (es := []) (clrW_at hx) hg (Chg.refl _ _) (World.ownsRow_nil _ _ _ _) (fun p hp => by simp at hp) (fun b hb => by cases hb) (fun p hp => by simp at hp) (by simp) (fun p hp => by simp at hp) hg2 (o [])
  rw [clrW_set hx hb] at k1
  exact ⟨_, k1, fun q hq => hq.elim (hF q) (fun h => .inr (Nat.le_trans hc.size h.1)), hc.trans k2 (fun b hb => hF b hb)⟩
theorem RfN.after {F : Nat → Prop} {w w1 w' : World} {r k : Nat} {S : Int × Int → List (List UInt8)} (h : RfN F w1 w' r k S) (hb : Below w.heap.size w w1) : RfN F w w' r k S := by
  obtain ⟨F', Vl, ws, h1, h2, h3, h4, h5⟩ := h
  exact ⟨F', Vl, ws, h1, h2, h3, fun q hq => (h4 q hq).imp id (fun h => Nat.le_trans hb.size h), (Chg.of_below hb).trans h5 (fun _ h => .inl h)⟩
def dblC (S : Int × Int → List (List UInt8)) (a b k : Int) : Int := if 0 ≤ k ∧ k < ((S (a, b)).length : Int) then putC S a b else 3
def dblS (S : Int × Int → List (List UInt8)) (a b k : Int) : (Int × Int → List (List UInt8)) := if 0 ≤ k ∧ k < ((S (a, b)).length : Int) then putS S a b (takeX S a b k) else S

set_option maxRecDepth 100000 in
set_option maxHeartbeats 4000000 in
theorem rf_Clear {F : Nat → Prop} {w : World} {r : Nat} {Vl : Value} {ws : List RW} (fb : Int) (h : RfJ F w r Vl ws) {S : Int × Int → List (List UInt8)} {k : Nat} (hl : LookW ws S) (hk : ws.length ≤ k) :
    Calls Try.prog 54 #[.pointer (some ⟨r, 0, none⟩), .int .i64 fb] w fun e w' => e = .returned (.tuple #[]) ∧ RfN F w w' r k (clrA fb S) := by
  have ho := h.own
  obtain ⟨A, c, rfl, hcap, hmax⟩ := own_slice_cap ho
  unfold maxLen at hmax
  clear ho
  have HJ := hide h
  have HK := hide h.k.rng
  have HL := hide hl
  have HC : Hid (ClrJ F w w r (.slice A ws.length c) ws fb 0) := ⟨F, by rw [clrW_0]; exact h, fun _ => .inl, Chg.refl _ _⟩
  clear h hl HJ HK
  go_enter Try.func54, Try.ntmps54
  refine act_off 31 [(0, .pointer (some ⟨r, 0, none⟩)), (1, .int .i64 fb)] (Frm.start rfl (by intro p hp; simp only [List.mem_cons, List.not_mem_nil, or_false] at hp; rcases hp with rfl | rfl <;> rfl)) (fun a0 hM => ?_)
  have HB2 : Hid (Below w.heap.size w w) := Below.refl _ _
  refine region_then fun K3 QK3 hK3 => ?_
  refine s_val hM (.inl rfl) rfl rfl (ev_move (.inr rfl) rfl) (fun a5 hM4 => ?_)
  clear hM
  refine seg_nil (hK3 _ _ ?_)
  clear hK3 K3 QK3
  have hM6 := hM4.cut3 (t1 := 0) (t2 := 1) (t3 := 4) rfl rfl rfl
  clear hM4
  have hM7 := hM6.cut3 (t1 := 4) (t2 := 0) (t3 := 1) rfl rfl rfl
  clear hM6
  refine wp_block ?_
  refine wp_loop_ghost (fun m a w' => ∃ (j : Nat), m = ws.length - j ∧ Frm a 31 [(4, .int .i64 (j : Int)), (0, .pointer (some ⟨r, 0, none⟩)), (1, .int .i64 fb)] ∧ Hid (ClrJ F w w' r (.slice A ws.length c) ws fb j) ∧ j ≤ ws.length) ws.length ⟨0,  by omega, hM7, HC, Nat.zero_le _⟩ ?_
  clear HB2 hM7 HC
  rintro m11 a9 w8 ⟨j, rfl, hM10, HC, hjn⟩
  obtain ⟨F1, hj1, hF1, hc1⟩ := HC.out
  have HJ1 := hide hj1
  have HK1 := hide hj1.k.rng
  clear hj1 HC
  have HB13 : Hid (Below w8.heap.size w8 w8) := Below.refl _ _
  refine wp_seq_k fun K14 hK14 => ?_
  by_cases hlt : j < ws.length
  case pos =>
    obtain ⟨x, hx⟩ : ∃ x, ws[j]? = some x := ⟨_, List.getElem?_eq_getElem hlt⟩
    obtain ⟨g, cg, cur, eg, _, hrg, _, hcur, hcsz, hset⟩ := HJ1.out.at_ (clrW_at (b := fb) hx)
    have eg2 := eg
    injection eg2 with hAx _ _
    have HRx := hide hrg
    have HCU := hide hcur
    clear hrg hcur
    refine region_then fun K15 QK15 hK15 => ?_
    refine s_val hM10 (.inl rfl) rfl rfl (ev_move (.inl rfl) rfl) (fun a17 hM16 => ?_)
    clear hM10
    refine s_val hM16 (.inl rfl) rfl rfl (ev_move (.inl rfl) rfl) (fun a19 hM18 => ?_)
    clear hM16
    refine s_val hM18 (.inl rfl) rfl rfl (ev_nilc rfl rfl) (fun a21 hM20 => ?_)
    clear hM18
    refine s_val hM20 (.inl rfl) rfl rfl (ev_fldw (m := 0) rfl rfl (fun w => by simp [go_sem])) (fun a23 hM22 => ?_)
    clear hM20
    refine s_val hM22 (.inl rfl) rfl rfl (ev_load1 (v := .slice A (ws.length) c) rfl rfl ((HK1.out.below HB13.out).at_ (m := 0) rfl) (isAgg_no Try.underlying76 rfl)) (fun a25 hM24 => ?_)
    clear hM22
    refine s_val hM24 (.inl rfl) rfl rfl (ev_len rfl rfl Try.underlying76) (fun a27 hM26 => ?_)
    clear hM24
    refine s_val hM26 (.inl rfl) rfl rfl (ev_bin rfl rfl rfl g_int (b_lss (b := true) (by rw [decide_eq_true_eq]; omega))) (fun a29 hM28 => ?_)
    clear hM26
    refine seg_nil (hK15 _ _ ?_)
    clear hK15 K15 QK15
    have hM30 := hM28.cut4 (t1 := 0) (t2 := 1) (t3 := 4) (t4 := 11) rfl rfl rfl rfl
    clear hM28
    refine wp_cond_true (hM30.ev (t := 11) rfl) ?_
    refine wp_skip ?_
    refine hK14 _ _ ?_
    refine wp_seq_k fun K31 hK31 => ?_
    refine wp_block ?_
    by_cases hxb : x.b = fb
    case pos =>
      refine region_then fun K32 QK32 hK32 => ?_
      refine s_val hM30 (.inl rfl) rfl rfl (ev_move (.inl rfl) rfl) (fun a34 hM33 => ?_)
      clear hM30
      refine s_val hM33 (.inl rfl) rfl rfl (ev_nilc rfl rfl) (fun a36 hM35 => ?_)
      clear hM33
      refine s_val hM35 (.inl rfl) rfl rfl (ev_fldw (m := 0) rfl rfl (fun w => by simp [go_sem])) (fun a38 hM37 => ?_)
      clear hM35
      refine s_val hM37 (.inl rfl) rfl rfl (ev_load1 (v := .slice A (ws.length) c) rfl rfl ((HK1.out.below HB13.out).at_ (m := 0) rfl) (isAgg_no Try.underlying76 rfl)) (fun a40 hM39 => ?_)
      clear hM37
      refine s_val hM39 (.inl rfl) rfl rfl (ev_move (.inl rfl) rfl) (fun a42 hM41 => ?_)
      clear hM39
      refine s_val hM41 (.inl rfl) rfl rfl (ev_idx (b := g) (off := 0) (k := j) (sz := 3) (p := j * 3) rfl (by rw [← hAx]; rfl) rfl Try.underlying76 (by kernel_rfl) (by omega) (by omega)) (fun a44 hM43 => ?_)
      clear hM41
      refine s_val hM43 (.inl rfl) rfl rfl (ev_fldw (m := j * 3 + 1) rfl rfl (fun w => by simp [go_sem])) (fun a46 hM45 => ?_)
      clear hM43
      refine s_val hM45 (.inl rfl) rfl rfl (ev_load1 (v := .int .i64 (x.b)) rfl rfl ((HRx.out.below HB13.out).at_ (m := 1) rfl) (isAgg_no Try.underlying3 rfl)) (fun a48 hM47 => ?_)
      clear hM45
      refine s_val hM47 (.inl rfl) rfl rfl (ev_move (.inl rfl) rfl) (fun a50 hM49 => ?_)
      clear hM47
      refine s_val hM49 (.inl rfl) rfl rfl (ev_bin rfl rfl rfl g_int (b_eql (b := true) (decide_eq_true hxb))) (fun a52 hM51 => ?_)
      clear hM49
      refine seg_nil (hK32 _ _ ?_)
      clear hK32 K32 QK32
      have hM53 := hM51.cut4 (t1 := 0) (t2 := 1) (t3 := 4) (t4 := 23) rfl rfl rfl rfl
      clear hM51
      refine wp_cond_true (hM53.ev (t := 23) rfl) ?_
      refine region_last fun K54 QK54 hK54 => ?_
      refine s_val hM53 (.inl rfl) rfl rfl (ev_move (.inl rfl) rfl) (fun a56 hM55 => ?_)
      clear hM53
      refine s_val hM55 (.inl rfl) rfl rfl (ev_nilc rfl rfl) (fun a58 hM57 => ?_)
      clear hM55
      refine s_val hM57 (.inl rfl) rfl rfl (ev_fldw (m := 0) rfl rfl (fun w => by simp [go_sem])) (fun a60 hM59 => ?_)
      clear hM57
      refine s_val hM59 (.inl rfl) rfl rfl (ev_load1 (v := .slice A (ws.length) c) rfl rfl ((HK1.out.below HB13.out).at_ (m := 0) rfl) (isAgg_no Try.underlying76 rfl)) (fun a62 hM61 => ?_)
      clear hM59
      refine s_val hM61 (.inl rfl) rfl rfl (ev_move (.inl rfl) rfl) (fun a64 hM63 => ?_)
      clear hM61
      refine s_val hM63 (.inl rfl) rfl rfl (ev_idx (b := g) (off := 0) (k := j) (sz := 3) (p := j * 3) rfl (by rw [← hAx]; rfl) rfl Try.underlying76 (by kernel_rfl) (by omega) (by omega)) (fun a66 hM65 => ?_)
      clear hM63
      refine s_val hM65 (.inl rfl) rfl rfl (ev_fldw (m := j * 3 + 2) rfl rfl (fun w => by simp [go_sem])) (fun a68 hM67 => ?_)
      clear hM65
      refine s_put (v := .slice none 0 0) hM67 rfl rfl rfl rfl rfl HCU.out hcsz (st_slice Try.underlying57 (by kernel_rfl)) (fun w69 kd hg => ?_)
      have HC2 : Hid (ClrJ F w w69 r (.slice A ws.length c) ws fb (j + 1)) := ClrJ.step HJ1.out hF1 hc1 hx hxb eg hg (fun es => hset w69 _ es kd)
      clear kd hg HJ1 HK1 HRx HCU HB13
      refine seg_nil (hK54 _ _ ?_)
      clear hK54 K54 QK54
      have hM70 := hM67.cut3 (t1 := 0) (t2 := 1) (t3 := 4) rfl rfl rfl
      clear hM67
      refine inb_n ?_
      refine hK31 _ _ ?_
      refine region_last fun K71 QK71 hK71 => ?_
      refine s_val hM70 (.inl rfl) rfl rfl (ev_move (.inl rfl) rfl) (fun a73 hM72 => ?_)
      clear hM70
      refine s_val hM72 (.inl rfl) rfl rfl (ev_bin rfl rfl rfl g_int (b_add (r := ((j + 1 : Nat) : Int)) (by omega) (by omega))) (fun a75 hM74 => ?_)
      clear hM72
      refine s_val hM74 (.inl rfl) rfl rfl (ev_move (.inr rfl) rfl) (fun a77 hM76 => ?_)
      clear hM74
      refine seg_nil (hK71 _ _ ?_)
      clear hK71 K71 QK71
      have hM78 := hM76.cut3 (t1 := 0) (t2 := 1) (t3 := 4) rfl rfl rfl
      clear hM76
      have hM79 := hM78.cut3 (t1 := 4) (t2 := 0) (t3 := 1) rfl rfl rfl
      clear hM78
      exact ⟨ws.length - (j + 1), by omega, j + 1, rfl, hM79, HC2, hlt⟩
    case neg =>
      have HC2 : Hid (ClrJ F w w8 r (.slice A ws.length c) ws fb (j + 1)) := ⟨F1, by rw [← clrW_skip hx hxb]; exact HJ1.out, hF1, hc1⟩
      refine region_then fun K80 QK80 hK80 => ?_
      refine s_val hM30 (.inl rfl) rfl rfl (ev_move (.inl rfl) rfl) (fun a82 hM81 => ?_)
      clear hM30
      refine s_val hM81 (.inl rfl) rfl rfl (ev_nilc rfl rfl) (fun a84 hM83 => ?_)
      clear hM81
      refine s_val hM83 (.inl rfl) rfl rfl (ev_fldw (m := 0) rfl rfl (fun w => by simp [go_sem])) (fun a86 hM85 => ?_)
      clear hM83
      refine s_val hM85 (.inl rfl) rfl rfl (ev_load1 (v := .slice A (ws.length) c) rfl rfl ((HK1.out.below HB13.out).at_ (m := 0) rfl) (isAgg_no Try.underlying76 rfl)) (fun a88 hM87 => ?_)
      clear hM85
      refine s_val hM87 (.inl rfl) rfl rfl (ev_move (.inl rfl) rfl) (fun a90 hM89 => ?_)
      clear hM87
      refine s_val hM89 (.inl rfl) rfl rfl (ev_idx (b := g) (off := 0) (k := j) (sz := 3) (p := j * 3) rfl (by rw [← hAx]; rfl) rfl Try.underlying76 (by kernel_rfl) (by omega) (by omega)) (fun a92 hM91 => ?_)
      clear hM89
      refine s_val hM91 (.inl rfl) rfl rfl (ev_fldw (m := j * 3 + 1) rfl rfl (fun w => by simp [go_sem])) (fun a94 hM93 => ?_)
      clear hM91
      refine s_val hM93 (.inl rfl) rfl rfl (ev_load1 (v := .int .i64 (x.b)) rfl rfl ((HRx.out.below HB13.out).at_ (m := 1) rfl) (isAgg_no Try.underlying3 rfl)) (fun a96 hM95 => ?_)
      clear hM93
      refine s_val hM95 (.inl rfl) rfl rfl (ev_move (.inl rfl) rfl) (fun a98 hM97 => ?_)
      clear hM95
      refine s_val hM97 (.inl rfl) rfl rfl (ev_bin rfl rfl rfl g_int (b_eql (b := false) (decide_eq_false hxb))) (fun a100 hM99 => ?_)
      clear hM97
      refine seg_nil (hK80 _ _ ?_)
      clear hK80 K80 QK80
      have hM101 := hM99.cut4 (t1 := 0) (t2 := 1) (t3 := 4) (t4 := 23) rfl rfl rfl rfl
      clear hM99
      refine wp_cond_false (hM101.ev (t := 23) rfl) ?_
      refine wp_skip ?_
      refine inb_n ?_
      refine hK31 _ _ ?_
      refine region_last fun K102 QK102 hK102 => ?_
      refine s_val hM101 (.inl rfl) rfl rfl (ev_move (.inl rfl) rfl) (fun a104 hM103 => ?_)
      clear hM101
      refine s_val hM103 (.inl rfl) rfl rfl (ev_bin rfl rfl rfl g_int (b_add (r := ((j + 1 : Nat) : Int)) (by omega) (by omega))) (fun a106 hM105 => ?_)
      clear hM103
      refine s_val hM105 (.inl rfl) rfl rfl (ev_move (.inr rfl) rfl) (fun a108 hM107 => ?_)
      clear hM105
      refine seg_nil (hK102 _ _ ?_)
      clear hK102 K102 QK102
      have hM109 := hM107.cut3 (t1 := 0) (t2 := 1) (t3 := 4) rfl rfl rfl
      clear hM107
      have hM110 := hM109.cut3 (t1 := 4) (t2 := 0) (t3 := 1) rfl rfl rfl
      clear hM109
      exact ⟨ws.length - (j + 1), by omega, j + 1, rfl, hM110, HC2, hlt⟩
  case neg =>
    refine region_then fun K111 QK111 hK111 => ?_
    refine s_val hM10 (.inl rfl) rfl rfl (ev_move (.inl rfl) rfl) (fun a113 hM112 => ?_)
    clear hM10
    refine s_val hM112 (.inl rfl) rfl rfl (ev_move (.inl rfl) rfl) (fun a115 hM114 => ?_)
    clear hM112
    refine s_val hM114 (.inl rfl) rfl rfl (ev_nilc rfl rfl) (fun a117 hM116 => ?_)
    clear hM114
    refine s_val hM116 (.inl rfl) rfl rfl (ev_fldw (m := 0) rfl rfl (fun w => by simp [go_sem])) (fun a119 hM118 => ?_)
    clear hM116
    refine s_val hM118 (.inl rfl) rfl rfl (ev_load1 (v := .slice A (ws.length) c) rfl rfl ((HK1.out.below HB13.out).at_ (m := 0) rfl) (isAgg_no Try.underlying76 rfl)) (fun a121 hM120 => ?_)
    clear hM118
    refine s_val hM120 (.inl rfl) rfl rfl (ev_len rfl rfl Try.underlying76) (fun a123 hM122 => ?_)
    clear hM120
    refine s_val hM122 (.inl rfl) rfl rfl (ev_bin rfl rfl rfl g_int (b_lss (b := false) (by rw [decide_eq_false_iff_not]; omega))) (fun a125 hM124 => ?_)
    clear hM122
    refine seg_nil (hK111 _ _ ?_)
    clear hK111 K111 QK111
    have hM126 := hM124.cut4 (t1 := 0) (t2 := 1) (t3 := 4) (t4 := 11) rfl rfl rfl rfl
    clear hM124
    refine wp_cond_false (hM126.ev (t := 11) rfl) ?_
    refine wp_exit ?_
    repeat (with_reducible refine th_e ?_)
    refine inb_e ?_
    exact ⟨hM126.2.1, _, results_none rfl _ _ _, rfl, _, _, _, (HJ1.out.below HB13.out), HL.out.clr (by omega), by rw [clrW_len]; exact hk, hF1, hc1.then_below HB13.out⟩

set_option maxRecDepth 100000 in
set_option maxHeartbeats 4000000 in
theorem rf_Double {F : Nat → Prop} {w : World} {r : Nat} {Vl : Value} {ws : List RW} (fa fb : Int) (h : RfJ F w r Vl ws) {S : Int × Int → List (List UInt8)} {k : Nat} (kk : Int) (hl : LookW ws S) (hk : ws.length + 1 ≤ k) (hk2 : k ≤ 1000) :
    Calls Try.prog 52 #[.pointer (some ⟨r, 0, none⟩), .int .i64 fa, .int .i64 fb, .int .i64 kk] w fun e w' => e = .returned (.int .i64 (dblC S fa fb kk)) ∧ RfN F w w' r k (dblS S fa fb kk) := by
  have ho := h.own
  obtain ⟨A, c, rfl, hcap, hmax⟩ := own_slice_cap ho
  unfold maxLen at hmax
  clear ho
  have HJ := hide h
  have HK := hide h.k.rng
  have HL := hide hl
  clear h hl
  go_enter Try.func52, Try.ntmps52
  refine act_off 37 [(0, .pointer (some ⟨r, 0, none⟩)), (1, .int .i64 fa), (2, .int .i64 fb), (3, .int .i64 kk)] (Frm.start rfl (by intro p hp; simp only [List.mem_cons, List.not_mem_nil, or_false] at hp; rcases hp with rfl | rfl | rfl | rfl <;> rfl)) (fun a0 hM => ?_)
  have HB2 : Hid (Below w.heap.size w w) := Below.refl _ _
  refine region_then fun K3 QK3 hK3 => ?_
  refine s_val hM (.inl rfl) rfl rfl (ev_move (.inr rfl) rfl) (fun a5 hM4 => ?_)
  clear hM
  refine seg_nil (hK3 _ _ ?_)
  clear hK3 K3 QK3
  have hM6 := hM4.cut4 (t1 := 0) (t2 := 1) (t3 := 2) (t4 := 3) rfl rfl rfl rfl
  clear hM4
  refine wp_seq_k fun K7 hK7 => ?_
  by_cases hk0 : kk < 0
  case pos =>
    have hno : ¬ (0 ≤ kk ∧ kk < ((S (fa, fb)).length : Int)) := by omega
    refine region_then fun K8 QK8 hK8 => ?_
    refine s_val hM6 (.inl rfl) rfl rfl (ev_move (.inl rfl) rfl) (fun a10 hM9 => ?_)
    clear hM6
    refine s_val hM9 (.inl rfl) rfl rfl (ev_bin rfl rfl rfl g_int (b_lss (b := true) (decide_eq_true hk0))) (fun a12 hM11 => ?_)
    clear hM9
    refine s_val hM11 (.inl rfl) rfl rfl (ev_move (.inl rfl) rfl) (fun a14 hM13 => ?_)
    clear hM11
    refine s_skip hM13 rfl rfl rfl rfl rfl rfl (fun a16 hM15 => ?_)
    clear hM13
    refine s_skip hM15 rfl rfl rfl rfl rfl rfl (fun a18 hM17 => ?_)
    clear hM15
    refine s_skip hM17 rfl rfl rfl rfl rfl rfl (fun a20 hM19 => ?_)
    clear hM17
    refine s_skip hM19 rfl rfl rfl rfl rfl rfl (fun a22 hM21 => ?_)
    clear hM19
    refine s_skip hM21 rfl rfl rfl rfl rfl rfl (fun a24 hM23 => ?_)
    clear hM21
    refine s_skip hM23 rfl rfl rfl rfl rfl rfl (fun a26 hM25 => ?_)
    clear hM23
    refine s_val hM25 (.inl rfl) rfl rfl (ev_pick rfl rfl rfl) (fun a28 hM27 => ?_)
    clear hM25
    refine seg_nil (hK8 _ _ ?_)
    clear hK8 K8 QK8
    have hM29 := hM27.cut5 (t1 := 0) (t2 := 1) (t3 := 2) (t4 := 3) (t5 := 18) rfl rfl rfl rfl rfl
    clear hM27
    refine wp_cond_true (hM29.ev (t := 18) rfl) ?_
    refine region_then fun K30 QK30 hK30 => ?_
    refine s_val hM29 (.inl rfl) rfl rfl (ev_move (.inr rfl) rfl) (fun a32 hM31 => ?_)
    clear hM29
    refine seg_nil (hK30 _ _ ?_)
    clear hK30 K30 QK30
    have hM33 := hM31.cut1 (t1 := 8) rfl
    clear hM31
    refine wp_ret ?_
    repeat (with_reducible first | refine th_r ?_ | refine inb_r ?_ | refine js_r ?_)
    refine ret_of (t := 8) rfl hM33 rfl ?_
    unfold dblC dblS
    rw [if_neg hno, if_neg hno]
    exact ⟨rfl, rn_same HJ.out HL.out (by omega) HB2.out⟩
  case neg =>
    by_cases hk1 : ((S (fa, fb)).length : Int) ≤ kk
    case pos =>
      have hno : ¬ (0 ≤ kk ∧ kk < ((S (fa, fb)).length : Int)) := by omega
      refine region_then fun K34 QK34 hK34 => ?_
      refine s_val hM6 (.inl rfl) rfl rfl (ev_move (.inl rfl) rfl) (fun a36 hM35 => ?_)
      clear hM6
      refine s_val hM35 (.inl rfl) rfl rfl (ev_bin rfl rfl rfl g_int (b_lss (b := false) (decide_eq_false hk0))) (fun a38 hM37 => ?_)
      clear hM35
      refine s_val hM37 (.inl rfl) rfl rfl (ev_move (.inl rfl) rfl) (fun a40 hM39 => ?_)
      clear hM37
      refine s_val hM39 (.inr ⟨_, _, _, rfl, rfl, rfl⟩) rfl rfl (ev_move (.inl rfl) rfl) (fun a42 hM41 => ?_)
      clear hM39
      refine s_val hM41 (.inr ⟨_, _, _, rfl, rfl, rfl⟩) rfl rfl (ev_move (.inl rfl) rfl) (fun a44 hM43 => ?_)
      clear hM41
      refine s_val hM43 (.inr ⟨_, _, _, rfl, rfl, rfl⟩) rfl rfl (ev_move (.inl rfl) rfl) (fun a46 hM45 => ?_)
      clear hM43
      refine s_val hM45 (.inr ⟨_, _, _, rfl, rfl, rfl⟩) rfl rfl (ev_move (.inl rfl) rfl) (fun a48 hM47 => ?_)
      clear hM45
      refine s_call hM47 (.inr ⟨_, _, _, rfl, rfl, rfl⟩) rfl rfl (f := 56) (args := #[.pointer (some ⟨r, 0, none⟩), .int .i64 fa, .int .i64 fb]) (ev_call hM47 rfl rfl rfl (fun w => by simp [go_sem]) _) (rf_Count fa fb (HJ.out.below HB2.out) HL.out) (fun e w49 hp => ?_)
      obtain ⟨rfl, rfl⟩ := hp
      refine ⟨_, rfl, fun a52 hM51 => ?_⟩
      clear hM47
      refine s_val hM51 (.inr ⟨_, _, _, rfl, rfl, rfl⟩) rfl rfl (ev_bin rfl rfl rfl g_int (b_geq (b := true) (decide_eq_true hk1))) (fun a54 hM53 => ?_)
      clear hM51
      refine s_val hM53 (.inl rfl) rfl rfl (ev_pick rfl rfl rfl) (fun a56 hM55 => ?_)
      clear hM53
      refine seg_nil (hK34 _ _ ?_)
      clear hK34 K34 QK34
      have hM57 := hM55.cut5 (t1 := 0) (t2 := 1) (t3 := 2) (t4 := 3) (t5 := 18) rfl rfl rfl rfl rfl
      clear hM55
      refine wp_cond_true (hM57.ev (t := 18) rfl) ?_
      refine region_then fun K58 QK58 hK58 => ?_
      refine s_val hM57 (.inl rfl) rfl rfl (ev_move (.inr rfl) rfl) (fun a60 hM59 => ?_)
      clear hM57
      refine seg_nil (hK58 _ _ ?_)
      clear hK58 K58 QK58
      have hM61 := hM59.cut1 (t1 := 8) rfl
      clear hM59
      refine wp_ret ?_
      repeat (with_reducible first | refine th_r ?_ | refine inb_r ?_ | refine js_r ?_)
      refine ret_of (t := 8) rfl hM61 rfl ?_
      unfold dblC dblS
      rw [if_neg hno, if_neg hno]
      exact ⟨rfl, rn_same HJ.out HL.out (by omega) HB2.out⟩
    case neg =>
      obtain ⟨kn, rfl⟩ : ∃ q : Nat, kk = q := ⟨kk.toNat, by omega⟩
      obtain ⟨i, x, hf⟩ : ∃ i x, FirstW ws fa fb i x := by
        rcases way_cases ws fa fb with hn | h
        · have := (HL.out fa fb).1 hn
          rw [this] at hk1
          simp at hk1
        · exact h
      have hSl := (HL.out fa fb).2 i x hf
      have hSn : (S (fa, fb)).length = x.es.length := by rw [hSl, List.length_map]
      have HW : Hid (IsWay ws fa fb (i : Int)) := .inr ⟨i, x, rfl, hf⟩
      have hkn : kn < x.es.length := by omega
      have hyes : 0 ≤ (kn : Int) ∧ (kn : Int) < ((S (fa, fb)).length : Int) := by omega
      have hj := (HJ.out.below HB2.out)
      obtain ⟨g, cg, cur, eg, _, hrg, _, hcur, hcsz, hset⟩ := hj.at_ hf.at_
      have hAx : A = some ⟨g, 0, none⟩ := by injection eg
      have HRx := hide hrg
      have HCU := hide hcur
      obtain ⟨Ax, cx, hxv, hxc, hxm, hxs⟩ := hj.vrow (mem_of_at hf.at_)
      have HXS := hide hxs
      have HES := hide (hj.els (mem_of_at hf.at_))
      have hlt1 := (List.getElem?_eq_some_iff.1 hf.at_).1
      have hcx := hj.cnt x (mem_of_at hf.at_)
      clear hrg hxs hcur
      have HB63 : Hid (Below w.heap.size w w) := Below.refl _ _
      obtain ⟨p, hp⟩ : ∃ p, x.es[kn]? = some p := ⟨_, List.getElem?_eq_getElem (by omega)⟩
      obtain ⟨gx, ox, hAxx, hgx, hcl⟩ := HXS.out.2 (by omega)
      obtain ⟨Ap, cp, hpv, hps, hpl⟩ := HES.out p (mem_of_at hp)
      have HRe : Hid (Rng w gx (ox + kn) #[.slice Ap p.2.length cp]) := ⟨hgx, fun q u hq => by
        have hq0 : q = 0 := by have := (Array.getElem?_eq_some_iff.1 hq).1; simpa using this
        subst hq0
        obtain rfl := Option.some.inj hq
        rw [← hpv]
        exact hcl kn _ (by rw [List.getElem?_map, hp]; rfl)⟩
      have HSP := hide hps
      clear hcl hps
      refine region_then fun K64 QK64 hK64 => ?_
      refine s_val hM6 (.inl rfl) rfl rfl (ev_move (.inl rfl) rfl) (fun a66 hM65 => ?_)
      clear hM6
      refine s_val hM65 (.inl rfl) rfl rfl (ev_bin rfl rfl rfl g_int (b_lss (b := false) (by rw [decide_eq_false_iff_not]; omega))) (fun a68 hM67 => ?_)
      clear hM65
      refine s_val hM67 (.inl rfl) rfl rfl (ev_move (.inl rfl) rfl) (fun a70 hM69 => ?_)
      clear hM67
      refine s_val hM69 (.inr ⟨_, _, _, rfl, rfl, rfl⟩) rfl rfl (ev_move (.inl rfl) rfl) (fun a72 hM71 => ?_)
      clear hM69
      refine s_val hM71 (.inr ⟨_, _, _, rfl, rfl, rfl⟩) rfl rfl (ev_move (.inl rfl) rfl) (fun a74 hM73 => ?_)
      clear hM71
      refine s_val hM73 (.inr ⟨_, _, _, rfl, rfl, rfl⟩) rfl rfl (ev_move (.inl rfl) rfl) (fun a76 hM75 => ?_)
      clear hM73
      refine s_val hM75 (.inr ⟨_, _, _, rfl, rfl, rfl⟩) rfl rfl (ev_move (.inl rfl) rfl) (fun a78 hM77 => ?_)
      clear hM75
      refine s_call hM77 (.inr ⟨_, _, _, rfl, rfl, rfl⟩) rfl rfl (f := 56) (args := #[.pointer (some ⟨r, 0, none⟩), .int .i64 fa, .int .i64 fb]) (ev_call hM77 rfl rfl rfl (fun w => by simp [go_sem]) _) (rf_Count fa fb (HJ.out.below HB2.out) HL.out) (fun e w79 hp => ?_)
      obtain ⟨rfl, rfl⟩ := hp
      refine ⟨_, rfl, fun a82 hM81 => ?_⟩
      clear hM77
      refine s_val hM81 (.inr ⟨_, _, _, rfl, rfl, rfl⟩) rfl rfl (ev_bin rfl rfl rfl g_int (b_geq (b := false) (decide_eq_false hk1))) (fun a84 hM83 => ?_)
      clear hM81
      refine s_val hM83 (.inl rfl) rfl rfl (ev_pick rfl rfl rfl) (fun a86 hM85 => ?_)
      clear hM83
      refine seg_nil (hK64 _ _ ?_)
      clear hK64 K64 QK64
      have hM87 := hM85.cut5 (t1 := 0) (t2 := 1) (t3 := 2) (t4 := 3) (t5 := 18) rfl rfl rfl rfl rfl
      clear hM85
      refine wp_cond_false (hM87.ev (t := 18) rfl) ?_
      refine wp_skip ?_
      refine hK7 _ _ ?_
      have hj3 := hide (HJ.out.below HB2.out)
      have hr3 := hide (HRx.out.below HB63.out)
      have he3 := hide (HRe.out.below HB63.out)
      have hb0 := hide HB2.out
      obtain ⟨tv, htv⟩ : ∃ f : Nat → Value, f = fun q => ([.pointer (some ⟨r, 0, none⟩), .int .i64 fa, .int .i64 fb, .pointer (some ⟨r, 0, none⟩), .pointer (some ⟨r, 0, none⟩), .pointer (some ⟨r, 0, none⟩), .slice A ws.length c, .pointer (some ⟨r, 0, none⟩), .int .i64 fa, .int .i64 fb, .int .i64 (i : Int), .pointer (some ⟨g, i * 3, none⟩), .pointer (some ⟨g, i * 3 + 2, none⟩), .slice Ax x.es.length cx, .int .i64 (kn : Int), .pointer (some ⟨gx, ox + kn, none⟩), .slice Ap p.2.length cp] : List Value).getD q undef := ⟨_, rfl⟩
      refine wp_mono_region (P := Try.prog) (by kernel_rfl) 17 19 (monoR_of (by kernel_rfl)) (fun i v _ => v = tv i) (fun _ _ => none) hM87 (fun i v w w' h _ => h) (fun i v w _ b hb => (by cases hb)) (fun q o hq ho a1 w' f hb hM hd Kc hK => ?_) (fun fuel a1 w' f hfu hJ => ?_)
      case refine_1 =>
        have hio : q = 0 ∨ q = 1 ∨ q = 2 ∨ q = 3 ∨ q = 4 ∨ q = 5 ∨ q = 6 ∨ q = 7 ∨ q = 8 ∨ q = 9 ∨ q = 10 ∨ q = 11 ∨ q = 12 ∨ q = 13 ∨ q = 14 ∨ q = 15 ∨ q = 16 := by omega
        have kj := hj3.out.below hb
        have kr := hr3.out.below hb
        have ke := he3.out.below hb
        rcases hio with rfl | rfl | rfl | rfl | rfl | rfl | rfl | rfl | rfl | rfl | rfl | rfl | rfl | rfl | rfl | rfl | rfl
        · have ho2 := Option.some.inj ho
          subst ho2
          exact n_val (d := 19) ho hM (.inl rfl) rfl ((ev_move (.inl rfl) rfl) a1 _ hM) (hK _ _ (by rw [htv]; rfl) (Below.refl _ _) (fun b hb => (by cases hb)))
        · have ho2 := Option.some.inj ho
          subst ho2
          exact n_val (d := 20) ho hM (.inl rfl) rfl ((ev_move (.inl rfl) rfl) a1 _ hM) (hK _ _ (by rw [htv]; rfl) (Below.refl _ _) (fun b hb => (by cases hb)))
        · have ho2 := Option.some.inj ho
          subst ho2
          exact n_val (d := 21) ho hM (.inl rfl) rfl ((ev_move (.inl rfl) rfl) a1 _ hM) (hK _ _ (by rw [htv]; rfl) (Below.refl _ _) (fun b hb => (by cases hb)))
        · have ho2 := Option.some.inj ho
          subst ho2
          exact n_val (d := 22) ho hM (.inl rfl) rfl ((ev_move (.inl rfl) rfl) a1 _ hM) (hK _ _ (by rw [htv]; rfl) (Below.refl _ _) (fun b hb => (by cases hb)))
        · have ho2 := Option.some.inj ho
          subst ho2
          obtain ⟨h3, e3⟩ := hd 3 (n_dep (by kernel_rfl))
          rw [show f 3 = .pointer (some ⟨r, 0, none⟩) from e3.trans (by rw [htv]; rfl)] at h3
          exact n_val (d := 23) ho h3 (.inl rfl) rfl ((ev_nilc rfl rfl) a1 _ h3) (hK _ _ (by rw [htv]; rfl) (Below.refl _ _) (fun b hb => (by cases hb)))
        · have ho2 := Option.some.inj ho
          subst ho2
          obtain ⟨h4, e4⟩ := hd 4 (n_dep (by kernel_rfl))
          rw [show f 4 = .pointer (some ⟨r, 0, none⟩) from e4.trans (by rw [htv]; rfl)] at h4
          exact n_val (d := 24) ho h4 (.inl rfl) rfl ((ev_fldw (m := 0) rfl rfl (fun w => by simp [go_sem])) a1 _ h4) (hK _ _ (by rw [htv]; rfl) (Below.refl _ _) (fun b hb => (by cases hb)))
        · have ho2 := Option.some.inj ho
          subst ho2
          obtain ⟨h5, e5⟩ := hd 5 (n_dep (by kernel_rfl))
          rw [show f 5 = .pointer (some ⟨r, 0, none⟩) from e5.trans (by rw [htv]; rfl)] at h5
          exact n_val (d := 25) ho h5 (.inl rfl) rfl ((ev_load1 (v := .slice A ws.length c) rfl rfl (kj.k.rng.at_ (m := 0) rfl) (isAgg_no Try.underlying76 rfl)) a1 _ h5) (hK _ _ (by rw [htv]; rfl) (Below.refl _ _) (fun b hb => (by cases hb)))
        · have ho2 := Option.some.inj ho
          subst ho2
          exact n_val (d := 26) ho hM (.inl rfl) rfl ((ev_move (.inl rfl) rfl) a1 _ hM) (hK _ _ (by rw [htv]; rfl) (Below.refl _ _) (fun b hb => (by cases hb)))
        · have ho2 := Option.some.inj ho
          subst ho2
          exact n_val (d := 27) ho hM (.inl rfl) rfl ((ev_move (.inl rfl) rfl) a1 _ hM) (hK _ _ (by rw [htv]; rfl) (Below.refl _ _) (fun b hb => (by cases hb)))
        · have ho2 := Option.some.inj ho
          subst ho2
          exact n_val (d := 28) ho hM (.inl rfl) rfl ((ev_move (.inl rfl) rfl) a1 _ hM) (hK _ _ (by rw [htv]; rfl) (Below.refl _ _) (fun b hb => (by cases hb)))
        · have ho2 := Option.some.inj ho
          subst ho2
          obtain ⟨h7, e7⟩ := hd 7 (n_dep (by kernel_rfl))
          rw [show f 7 = .pointer (some ⟨r, 0, none⟩) from e7.trans (by rw [htv]; rfl)] at h7
          obtain ⟨h8, e8⟩ := hd 8 (n_dep (by kernel_rfl))
          rw [show f 8 = .int .i64 fa from e8.trans (by rw [htv]; rfl)] at h8
          have h8x := h7.more h8
          obtain ⟨h9, e9⟩ := hd 9 (n_dep (by kernel_rfl))
          rw [show f 9 = .int .i64 fb from e9.trans (by rw [htv]; rfl)] at h9
          have h9x := h8x.more h9
          refine n_call (d := 29) (f := 76) (args := #[.pointer (some ⟨r, 0, none⟩), .int .i64 fa, .int .i64 fb]) ho h9x (.inl rfl) rfl (ev_call h9x rfl rfl rfl (fun w => by simp [go_sem]) _) (rf_way fa fb kj HW.out) (fun e w2 hp => ?_)
          obtain ⟨rfl, rfl⟩ := hp
          exact ⟨_, rfl, hK _ _ (by rw [htv]; rfl) (Below.refl _ _) (fun b hb => (by cases hb))⟩
        · have ho2 := Option.some.inj ho
          subst ho2
          obtain ⟨h6, e6⟩ := hd 6 (n_dep (by kernel_rfl))
          rw [show f 6 = .slice A ws.length c from e6.trans (by rw [htv]; rfl)] at h6
          obtain ⟨h10, e10⟩ := hd 10 (n_dep (by kernel_rfl))
          rw [show f 10 = .int .i64 (i : Int) from e10.trans (by rw [htv]; rfl)] at h10
          have h10x := h6.more h10
          exact n_val (d := 30) ho h10x (.inl rfl) rfl ((ev_idx (b := g) (off := 0) (k := i) (sz := 3) (p := i * 3) rfl (by rw [← hAx]; rfl) rfl Try.underlying76 (by kernel_rfl) (by omega) (by omega)) a1 _ h10x) (hK _ _ (by rw [htv]; rfl) (Below.refl _ _) (fun b hb => (by cases hb)))
        · have ho2 := Option.some.inj ho
          subst ho2
          obtain ⟨h11, e11⟩ := hd 11 (n_dep (by kernel_rfl))
          rw [show f 11 = .pointer (some ⟨g, i * 3, none⟩) from e11.trans (by rw [htv]; rfl)] at h11
          exact n_val (d := 31) ho h11 (.inl rfl) rfl ((ev_fldw (m := i * 3 + 2) rfl rfl (fun w => by simp [go_sem])) a1 _ h11) (hK _ _ (by rw [htv]; rfl) (Below.refl _ _) (fun b hb => (by cases hb)))
        · have ho2 := Option.some.inj ho
          subst ho2
          obtain ⟨h12, e12⟩ := hd 12 (n_dep (by kernel_rfl))
          rw [show f 12 = .pointer (some ⟨g, i * 3 + 2, none⟩) from e12.trans (by rw [htv]; rfl)] at h12
          exact n_val (d := 32) ho h12 (.inl rfl) rfl ((ev_load1 (v := .slice Ax x.es.length cx) rfl rfl (by rw [← hxv]; exact kr.at_ (m := 2) rfl) (isAgg_no Try.underlying57 rfl)) a1 _ h12) (hK _ _ (by rw [htv]; rfl) (Below.refl _ _) (fun b hb => (by cases hb)))
        · have ho2 := Option.some.inj ho
          subst ho2
          exact n_val (d := 33) ho hM (.inl rfl) rfl ((ev_move (.inl rfl) rfl) a1 _ hM) (hK _ _ (by rw [htv]; rfl) (Below.refl _ _) (fun b hb => (by cases hb)))
        · have ho2 := Option.some.inj ho
          subst ho2
          obtain ⟨h13, e13⟩ := hd 13 (n_dep (by kernel_rfl))
          rw [show f 13 = .slice Ax x.es.length cx from e13.trans (by rw [htv]; rfl)] at h13
          obtain ⟨h14, e14⟩ := hd 14 (n_dep (by kernel_rfl))
          rw [show f 14 = .int .i64 (kn : Int) from e14.trans (by rw [htv]; rfl)] at h14
          have h14x := h13.more h14
          exact n_val (d := 34) ho h14x (.inl rfl) rfl ((ev_idx (b := gx) (off := ox) (k := kn) (sz := 1) (p := ox + kn) rfl (by rw [← hAxx]; rfl) rfl Try.underlying57 (by kernel_rfl) (by omega) (by omega)) a1 _ h14x) (hK _ _ (by rw [htv]; rfl) (Below.refl _ _) (fun b hb => (by cases hb)))
        · have ho2 := Option.some.inj ho
          subst ho2
          obtain ⟨h15, e15⟩ := hd 15 (n_dep (by kernel_rfl))
          rw [show f 15 = .pointer (some ⟨gx, ox + kn, none⟩) from e15.trans (by rw [htv]; rfl)] at h15
          exact n_val (d := 35) ho h15 (.inl rfl) rfl ((ev_load1 (v := .slice Ap p.2.length cp) rfl rfl (ke.at_ (m := 0) rfl) (isAgg_no Try.underlying28 rfl)) a1 _ h15) (hK _ _ (by rw [htv]; rfl) (Below.refl _ _) (fun b hb => (by cases hb)))
      obtain ⟨fuel, rfl⟩ : ∃ q, fuel = q + 2 := ⟨fuel - 2, by omega⟩
      obtain ⟨h0, e0⟩ := hJ.val 0 (by omega) trivial
      obtain ⟨h1, e1⟩ := hJ.val 1 (by omega) trivial
      obtain ⟨h2, e2⟩ := hJ.val 2 (by omega) trivial
      obtain ⟨h16, e16⟩ := hJ.val 16 (by omega) trivial
      rw [show f 0 = .pointer (some ⟨r, 0, none⟩) from e0.trans (by rw [htv]; rfl)] at h0
      rw [show f 1 = .int .i64 fa from e1.trans (by rw [htv]; rfl)] at h1
      rw [show f 2 = .int .i64 fb from e2.trans (by rw [htv]; rfl)] at h2
      rw [show f 16 = .slice Ap p.2.length cp from e16.trans (by rw [htv]; rfl)] at h16
      have hMx := ((h0.more h1).more h2).more h16
      have hbW := below_then hb0.out hJ.below
      have hJp := HJ.out.below hbW
      have hSp := HSP.out.below (below_then HB63.out hJ.below)
      refine n_only 17 (by kernel_rfl) (n_call (d := 36) (f := 55) (args := #[.pointer (some ⟨r, 0, none⟩), .int .i64 fa, .int .i64 fb, .slice Ap p.2.length cp]) rfl hMx (.inl rfl) rfl (ev_call hMx rfl rfl rfl (fun w => by simp [go_sem]) _) (rf_Put fa fb hJp HL.out hk hk2 hSp hpl (fun hn b off e hh => ?_)) (fun e w2 hp => ?_))
      case refine_1 =>
        have o := HJ.out.el x (mem_of_at hf.at_) p (mem_of_at hp)
        rw [hpv, e] at o
        rcases hh with hh | hh
        · exact own_two_ne o HJ.out.own (by decide) (show _ = some b from by simp [Value.ownBlock]) hh
        · subst hh; exact own_blk_ne o HJ.out.k (by decide) (by simp [Value.ownBlock])
      obtain ⟨rfl, hR⟩ := hp
      have HR := hide (hR.after hbW)
      refine ⟨_, rfl, ?_⟩
      have hM17 := hMx.put (d := 36) (by decide) (.int .i64 (putC S fa fb))
      refine n_only 18 (by kernel_rfl) (n_val (d := 8) rfl hM17 (.inl rfl) rfl (ev_move (.inr rfl) rfl _ _ hM17) ?_)
      have hM18 := hM17.put (d := 8) (by decide) (.int .i64 (putC S fa fb))
      refine wpAny_done (by kernel_rfl) ⟨rfl, ?_⟩ _
      have hM88 := hM18.cut1 (t1 := 8) rfl
      clear hM18 hM17 hMx h0 h1 h2 h16 hJ hJp hSp hR hbW
      have HB90 : Hid (Below w2.heap.size w2 w2) := Below.refl _ _
      refine wp_ret ?_
      repeat (with_reducible first | refine th_r ?_ | refine inb_r ?_ | refine js_r ?_)
      refine ret_of (t := 8) rfl hM88 rfl ?_
      have hx : takeX S fa fb (kn : Int) = p.2 := by
        unfold takeX
        rw [if_pos hyes, Int.toNat_natCast, hSl, List.getElem?_map, hp]; rfl
      unfold dblC dblS
      rw [if_pos hyes, if_pos hyes, hx]
      exact ⟨rfl, HR.out⟩
end Go.Proofs.Ytflamhndmggiaaa
