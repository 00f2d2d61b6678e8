/-
  The walk of RealStrange, over RealExact's contract.
-/
import Derived.Test.YtebaojcfmkobjaaRealI
set_option linter.unusedVariables false
set_option linter.unusedSimpArgs false
namespace Go.Proofs.Ytebaojcfmkobjaa
open Go.RowKit

def xS (x : MsD) : MsD := { x with s := x.s ++ [-1] }
def kM (k : Int) : MsD := { zM with k := k }
theorem set_ds {x : MsD} {v : MsV} {A : Option Addr} {n c : Nat} : (msC x v).setIfInBounds 17 (.slice A n c) = msC (xS x) (u3_ v A n c) := by kernel_rfl
theorem build_k {E : Array Value} {k : Int} (h : E = msC (kM k) zV) (w : World) : (Instr.build 42 #[(0, .int .i64 k)]).run Try.prog w = .ok (.agg E) w := by subst h; kernel_rfl
theorem build2m (w : World) {D E : Array Value} {x y : MsD} {v u : MsV} (e1 : D = msC x v) (e2 : E = msC y u) :
    (Instr.buildSlice 23 2 #[(0, .agg D), (1, .agg E)]).run Try.prog w = .ok (.slice (some ⟨w.heap.size, 0, none⟩) 2 2) (w.alloc (.cells (D ++ E) 42)) := by
  subst e1; subst e2
  kernel_rfl
structure ElS (W0 : World) (B : Nat) (w : World) (p : MsD × MsV) : Prop where
  tx : Sl W0 4 p.2.tx.A p.2.tx.n (txsC p.1.b.l)
  hb : Sl W0 1 p.2.hb.A p.2.hb.n (ints p.1.h.bs)
  hp : Sl W0 1 p.2.hp.A p.2.hp.n (ints p.1.h.ps)
  cb : Sl W0 1 p.2.cb.A p.2.cb.n (ints p.1.c.h.bs)
  cp : Sl W0 1 p.2.cp.A p.2.cp.n (ints p.1.c.h.ps)
  cs : Sl W0 1 p.2.cs.A p.2.cs.n (ints p.1.c.ss)
  ds : w.ownsRow B 3 1 (.slice p.2.ds.A p.2.ds.n p.2.ds.c) p.2.ds.n (ints p.1.s)
  l : MsL p.1 p.2
  d : p.2.ds.n * 8 ≤ 140737488355328
structure ElT (W0 : World) (B : Nat) (w : World) (ys : List (MsD × MsV)) : Prop where
  all : ∀ p ∈ ys, ElS W0 B w p
section
variable {W0 w w' : World} {B : Nat} {ys : List (MsD × MsV)} {p : MsD × MsV}
theorem ElS.own (h : ElS W0 B w p) (ho : w'.ownsRow B 3 1 (.slice p.2.ds.A p.2.ds.n p.2.ds.c) p.2.ds.n (ints p.1.s)) : ElS W0 B w' p := ⟨h.tx, h.hb, h.hp, h.cb, h.cp, h.cs, ho, h.l, h.d⟩
theorem ElT.nil : ElT W0 B w [] := ⟨fun p h => by simp at h⟩
theorem ElT.below (h : ElT W0 B w ys) (hb : Below w.heap.size w w') : ElT W0 B w' ys := ⟨fun p hp => (h.all p hp).own (own_later (h.all p hp).ds hb)⟩
theorem ElT.grow {n size : Nat} {B' : Nat} {e : TypeId} {v : Value} {xs : List Value} (h : ElT W0 B w ys) (ho : w.ownsRow B' e size v n xs) (hg : w.grownBy w' v.ownBlock) (hne : e ≠ 3) : ElT W0 B w' ys :=
  ⟨fun p hp => (h.all p hp).own (own_keep (h.all p hp).ds hg (fun _ hb => own_own_ne ho (h.all p hp).ds hne hb))⟩
theorem ElT.store {g : Nat} {t : TypeId} {cs : Array Value} (h : ElT W0 B w ys) (hk : Blk w g t cs) (hg : w.grownBy w' (some g)) (hne : 3 ≠ t) : ElT W0 B w' ys :=
  ⟨fun p hp => (h.all p hp).own (own_keep (h.all p hp).ds hg (fun b hb => by injection hb with hb; subst hb; exact own_blk_ne (h.all p hp).ds hk hne))⟩
theorem ElT.snoc2 {q : MsD × MsV} (h : ElT W0 B w ys) (h1 : ElS W0 B w p) (h2 : ElS W0 B w q) : ElT W0 B w (ys ++ [p, q]) := ⟨fun r hr => by
  rcases List.mem_append.1 hr with hr | hr
  · exact h.all r hr
  · simp only [List.mem_cons, List.not_mem_nil, or_false] at hr
    rcases hr with rfl | rfl
    · exact h1
    · exact h2⟩
theorem ElS.kM {k : Int} : ElS W0 B w (kM k, zV) :=
  ⟨(zM_s W0).tx, (zM_s W0).hb, (zM_s W0).hp, (zM_s W0).cb, (zM_s W0).cp, (zM_s W0).cs, World.ownsRow_nil _ _ _ _, ⟨by simp [Proofs.Ytebaojcfmkobjaa.kM, zM, zB], Nat.zero_le _, Nat.zero_le _, Nat.zero_le _, Nat.zero_le _, Nat.zero_le _, Nat.zero_le _, Nat.zero_le _⟩, by show (0 : Nat) * 8 ≤ _; omega⟩
theorem ElS.xS {x : MsD} {v : MsV} {A : Option Addr} {c : Nat} (h : MsS W0 x v) (hl : MsL x v) (hd : v.ds.n * 8 ≤ 140737488351232) (ho : w.ownsRow B 3 1 (.slice A (v.ds.n + 1) c) (v.ds.n + 1) (ints x.s ++ [.int .i64 (-1)])) : ElS W0 B w (xS x, u3_ v A (v.ds.n + 1) c) := by
  refine ⟨h.tx, h.hb, h.hp, h.cb, h.cp, h.cs, ?_, ⟨hl.txz, hl.tx, hl.hb, hl.hp, hl.cb, hl.cp, hl.cs, ?_⟩, ?_⟩
  · have e : ints (x.s ++ [-1]) = ints x.s ++ [.int .i64 (-1)] := by simp [ints]
    show w.ownsRow B 3 1 (.slice A (v.ds.n + 1) c) (v.ds.n + 1) (ints (x.s ++ [-1]))
    rw [e]; exact ho
  · show v.ds.n + 1 ≤ _; omega
  · show (v.ds.n + 1) * 8 ≤ _; omega
end
theorem scr_mk2 {W0 w : World} {s : ScV} {ls : List Int} {xs ys : List (MsD × MsV)} {pb : List Bool} {who wch : List Int} {AL : Option Addr} {cL B B' : Nat} (h : Scr W0 s ls xs pb who wch) (hb : Below W0.heap.size W0 w)
    (hl : w.ownsRow B 42 18 (.slice AL ys.length cL) ys.length (flat ys)) (he : ElT W0 B' w ys) : Scr w (sV s ⟨AL, ys.length, cL⟩ s.pu) ls ys pb who wch :=
  ⟨h.li.below hb, Msgs.of_own hl (fun p hp => by
    have q := he.all p hp
    exact ⟨⟨q.tx.below hb, q.hb.below hb, q.hp.below hb, q.cb.below hb, q.cp.below hb, q.cs.below hb, Sl.of_own q.ds⟩, q.l, q.d⟩), h.pu.below hb, h.wo.below hb, h.wi.below hb⟩
theorem flat_snoc2 (ys : List (MsD × MsV)) (p q : MsD × MsV) : flat (ys ++ [p, q]) = flat ys ++ ((msC p.1 p.2).toList ++ (msC q.1 q.2).toList) := by simp [flat]
section
variable {P : Program} {a : Act} {n : Nat} {M : List (Nat × Value)} {ops : Array Oper} {o : Oper} {w w' : World} {v : Value} {Q : Exit → Act → World → Prop} {K : Act → World → Prop} {rest : List Oper}
theorem s_appends {d : Nat} {s x : Operand} {t : TypeId} (hM : Frm a n M) (hw : Want ops M o) (hd : o.dst = some d) (hn : Nat.blt d n = true) (ho : o.op = .call { callee := .builtin .append, args := #[s, x], argTypes := #[t, t] })
    (base : Nat) (e : TypeId) (i : TypeInfo) (z : Value) (size bytes : Nat) (ht : P.underlying t = some (.slice e)) (hi : P.info? e = some i) (hz : i.zero = some z) (hsize : i.size = size) (hby : i.bytes = bytes) (hzs : z.cells.size = size) (hsz : 0 < size)
    (m : Nat) (xs : List Value) (hs : opv M s = some v) (hown : w.ownsRow base e size v m xs) (A : Option Addr) (k c : Nat) (news : List Value) (hx : opv M x = some (.slice A k c)) (hsl : Sl w size A k news)
    (h1 : ∀ u ∈ news, u.oneCell' = true) (h63 : m + k ≤ maxLen) (hbytes : (m + k) * bytes ≤ 140737488355328) (hbase : base ≤ w.heap.size)
    (h : ∀ v' a' w', Frm a' n ((d, v') :: M) → w'.ownsRow base e size v' (m + k) (xs ++ news) → w.grownBy w' v.ownBlock → wpSeg P ops Q K rest a' w') : wpSeg P ops Q K (o :: rest) a w := by
  obtain ⟨v', w', hr, h2, h3⟩ := run_append_any (P := P) w base t o.type e i z size bytes ht hi hz hsize hby hzs hsz v m xs hown A k c news hsl h1 h63 hbytes hbase
  have hrun : (execOp a.eval o).run P w = .ok (.value v') w' := by
    unfold execOp
    simp only [ho, resolve, invoke, builtin, Sem.run_bind, Sem.run_pure, Result.andThen_ok, List.map_toArray, List.map_cons, List.map_nil, hM.evo hs, hM.evo hx, hr]
  unfold wpSeg
  rw [if_pos (hw.is hM)]
  refine .inl ?_
  unfold Oper.wp
  rw [hrun, Oper.upon_value, hd]
  exact h _ _ _ (hM.put (Nat.le_of_ble_eq_true hn) _) h2 h3
end
theorem own_empty {w : World} {g : Nat} {B : Nat} (h : Blk w g 3 #[]) (hB : B ≤ g) : w.ownsRow B 3 1 (.slice (some ⟨g, 0, none⟩) 0 0) 0 (ints []) := ⟨rfl, .inr ⟨g, 0, #[], rfl, hB, h, Nat.le_refl _, by unfold maxLen; omega, rfl, rfl⟩⟩

set_option maxRecDepth 100000 in
set_option maxHeartbeats 4000000 in
theorem real_strange (N : Int) (s : ScV) (ls : List Int) (xs : List (MsD × MsV)) (pb : List Bool) (who wch : List Int) (w : World) (HS : Hid (Scr w s ls xs pb who wch)) (HZ : Hid (ScZ s who wch)) {C : Array Value} (HC : Hid (C = scC N s)) (HD8 : Hid (∀ p ∈ xs, p.2.ds.n * 8 ≤ 140737488351232)) :
    Calls Try.prog 14 #[.agg C] w fun e w' => e = .returned (.bool true) ∧ Below w.heap.size w w' := by

  go_enter Try.func14, Try.ntmps14
  refine act_off 42 [(0, .agg C)] (Frm.start rfl (by intro p hp; simp only [List.mem_cons, List.not_mem_nil, or_false] at hp; subst hp; rfl)) (fun a0 hM => ?_)
  have HB2 : Hid (Below w.heap.size w w) := Below.refl _ _
  refine region_then fun K3 QK3 hK3 => ?_
  refine s_alloc (e := 26) hM (.inl rfl) rfl rfl (V := fun g => .pointer (some ⟨g, 0, none⟩)) (ev_box hM rfl rfl) (fun g4 a10 w5 hM9 KB8_ hb6 hg7 => ?_)
  have KB8 := hide KB8_
  clear hM KB8_
  clear hg7
  have HB11 := hide (below_then HB2.out hb6)
  clear hb6 HB2
  have HB13 : Hid (Below w5.heap.size w5 w5) := Below.refl _ _
  refine s_val hM9 (.inl rfl) rfl rfl (ev_move (.inr rfl) rfl) (fun a15 hM14 => ?_)
  clear hM9
  refine seg_nil (hK3 _ _ ?_)
  clear hK3 K3 QK3
  have hM16 := hM14.cut2 (t1 := 1) (t2 := 2) rfl rfl
  clear hM14
  have HB00 := HB11
  have HS_ := hide (HS.out.below HB11.out)
  have KB17 := hide (KB8.out.on HB13.out)
  clear HS KB8 HB11 HB13
  have HS := HS_
  clear HS_
  have HB19 : Hid (Below w5.heap.size w5 w5) := Below.refl _ _
  refine region_then fun K20 QK20 hK20 => ?_
  refine s_val hM16 (.inl rfl) rfl rfl (ev_loadm rfl rfl (KB17.out.on HB19.out).rng Try.underlying26 rfl (by rw [HC.out]; exact info_scr)) (fun a22 hM21 => ?_)
  clear hM16
  refine s_new hM21 rfl rfl rfl rfl alloc_scr rfl rfl rfl rfl (by rw [HC.out]; exact info_scr) (by rw [HC.out]; rfl) (one_scr HC.out) (fun g23 a29 w24 hM28 KB27_ hb25 hg26 => ?_)
  have KB27 := hide KB27_
  clear hM21 KB27_
  have lo30 := hide (Nat.le_trans HB19.out.size hg26)
  clear hg26
  have HB31 := hide (below_then HB19.out hb25)
  clear hb25 HB19
  have HB33 : Hid (Below w24.heap.size w24 w24) := Below.refl _ _
  have HG5 := lo30
  refine seg_nil (hK20 _ _ ?_)
  clear hK20 K20 QK20
  have hM34 := hM28.cut2 (t1 := 1) (t2 := 3) rfl rfl
  clear hM28
  refine region_then fun K35 QK35 hK35 => ?_
  refine s_val hM34 (.inl rfl) rfl rfl (ev_fldw (m := 2) rfl rfl (fun w => by simp [go_sem])) (fun a37 hM36 => ?_)
  clear hM34
  refine s_put hM36 rfl rfl rfl rfl rfl (KB27.out.on HB33.out) (by rw [HC.out, scC_sz]; decide) (st_slice Try.underlying23 (by kernel_rfl)) (fun w38 KB39_ hg40 => ?_)
  have KB39 : Hid (Blk w38 g23 26 (scC N (sV s ⟨none, 0, 0⟩ s.pu))) := by have h := KB39_; rw [HC.out, set_l0] at h; exact h
  clear KB39_
  have HB41 := hide (below_of_grown HB31.out hg40 HB31.out.size lo30.out)
  clear HB31 HB33 hg40
  have HB43 : Hid (Below w38.heap.size w38 w38) := Below.refl _ _
  refine seg_nil (hK35 _ _ ?_)
  clear hK35 K35 QK35
  have hM44 := hM36.cut2 (t1 := 1) (t2 := 3) rfl rfl
  clear hM36
  refine wp_seq_k fun K45 hK45 => ?_
  refine region_then fun K46 QK46 hK46 => ?_
  refine s_val hM44 (.inl rfl) rfl rfl (ev_move (.inr rfl) rfl) (fun a48 hM47 => ?_)
  clear hM44
  refine seg_nil (hK46 _ _ ?_)
  clear hK46 K46 QK46
  have hM49 := hM47.cut3 (t1 := 1) (t2 := 3) (t3 := 4) rfl rfl rfl
  clear hM47
  have HOL : Hid (OwnR w38 w5.heap.size 42 18 (.slice none 0 0) 0 (flat [])) := World.ownsRow_nil _ _ _ _
  have HEL := hide (ElT.nil (W0 := w5) (B := w5.heap.size) (w := w38))
  have HLN : Hid (([] : List (MsD × MsV)).length ≤ 2 * 0 ∧ 0 ≤ 12) := ⟨Nat.le_refl _, by omega⟩
  have HK5 := hide (KB39.out.on HB43.out)
  have hM50 := hM49.cut3 (t1 := 4) (t2 := 1) (t3 := 3) rfl rfl rfl
  clear hM49
  refine wp_join (fun a w' => ∃ (j : Nat) (AL : Option Addr) (cL : Nat) (ys : List (MsD × MsV)), Frm a 42 [(1, .pointer (some ⟨g4, 0, none⟩)), (3, .pointer (some ⟨g23, 0, none⟩))] ∧ Hid (Below w5.heap.size w5 w') ∧ Hid (Blk w' g23 26 (scC N (sV s ⟨AL, ys.length, cL⟩ s.pu))) ∧ Hid (OwnR w' w5.heap.size 42 18 (.slice AL ys.length cL) ys.length (flat ys)) ∧ Hid (ElT w5 w5.heap.size w' ys) ∧ Hid (ys.length ≤ 2 * j ∧ j ≤ 12)) ?_ ?_
  ·
    refine wp_block ?_
    refine wp_loop_ghost (fun m a w' => ∃ (j : Nat) (AL : Option Addr) (cL : Nat) (ys : List (MsD × MsV)), m = s.l.n - j ∧ Frm a 42 [(4, .int .i64 (j : Int)), (1, .pointer (some ⟨g4, 0, none⟩)), (3, .pointer (some ⟨g23, 0, none⟩))] ∧ Hid (Below w5.heap.size w5 w') ∧ Hid (Blk w' g23 26 (scC N (sV s ⟨AL, ys.length, cL⟩ s.pu))) ∧ Hid (OwnR w' w5.heap.size 42 18 (.slice AL ys.length cL) ys.length (flat ys)) ∧ Hid (ElT w5 w5.heap.size w' ys) ∧ Hid (ys.length ≤ 2 * j ∧ j ≤ 12)) s.l.n ⟨0, none, 0, [],  by omega, hM50, HB41, HK5, HOL, HEL, HLN⟩ ?_
    clear HB41 HB43 hM50 HOL HEL HLN HK5
    rintro m55 a52 w51 ⟨j, AL, cL, ys, rfl, hM53, HB54, HK5, HOL, HEL, HLN⟩
    have HB57 : Hid (Below w51.heap.size w51 w51) := Below.refl _ _
    refine wp_seq_k fun K58 hK58 => ?_
    by_cases hlt : j < s.l.n
    case neg =>
      refine region_then fun K59 QK59 hK59 => ?_
      refine s_val hM53 (.inl rfl) rfl rfl (ev_move (.inl rfl) rfl) (fun a61 hM60 => ?_)
      clear hM53
      refine s_val hM60 (.inl rfl) rfl rfl (ev_fldw (m := 2) rfl rfl (fun w => by simp [go_sem])) (fun a63 hM62 => ?_)
      clear hM60
      refine s_val hM62 (.inl rfl) rfl rfl (ev_load1 (v := .slice (s.l.A) (s.l.n) (s.l.c)) rfl rfl ((KB17.out.on HB54.out).rng.at_ (m := 2) (by rw [HC.out]; rfl)) (isAgg_no Try.underlying23 rfl)) (fun a65 hM64 => ?_)
      clear hM62
      refine s_val hM64 (.inl rfl) rfl rfl (ev_len rfl rfl Try.underlying23) (fun a67 hM66 => ?_)
      clear hM64
      refine s_val hM66 (.inl rfl) rfl rfl (ev_bin rfl rfl rfl g_int (b_lss (b := false) (by rw [decide_eq_false_iff_not]; omega))) (fun a69 hM68 => ?_)
      clear hM66
      refine s_val hM68 (.inl rfl) rfl rfl (ev_move (.inl rfl) rfl) (fun a71 hM70 => ?_)
      clear hM68
      refine s_skip hM70 rfl rfl rfl rfl rfl rfl (fun a73 hM72 => ?_)
      clear hM70
      refine s_skip hM72 rfl rfl rfl rfl rfl rfl (fun a75 hM74 => ?_)
      clear hM72
      refine s_val hM74 (.inl rfl) rfl rfl (ev_pick rfl rfl rfl) (fun a77 hM76 => ?_)
      clear hM74
      refine seg_nil (hK59 _ _ ?_)
      clear hK59 K59 QK59
      have hM78 := hM76.cut4 (t1 := 1) (t2 := 3) (t3 := 4) (t4 := 16) rfl rfl rfl rfl
      clear hM76
      refine wp_cond_false (hM78.ev (t := 16) rfl) ?_
      refine wp_exit ?_
      repeat (with_reducible refine th_e ?_)
      refine inb_e ?_
      have hM79 := hM78.cut2 (t1 := 1) (t2 := 3) rfl rfl
      clear hM78
      exact jq_n ⟨j, AL, cL, ys, hM79, HB54, (hide (HK5.out.on HB57.out)), (hide (HOL.out.below HB57.out)), (hide (HEL.out.below HB57.out)), HLN⟩
    case pos =>
      by_cases hlt2 : j < 12
      case neg =>
        refine region_then fun K80 QK80 hK80 => ?_
        refine s_val hM53 (.inl rfl) rfl rfl (ev_move (.inl rfl) rfl) (fun a82 hM81 => ?_)
        clear hM53
        refine s_val hM81 (.inl rfl) rfl rfl (ev_fldw (m := 2) rfl rfl (fun w => by simp [go_sem])) (fun a84 hM83 => ?_)
        clear hM81
        refine s_val hM83 (.inl rfl) rfl rfl (ev_load1 (v := .slice (s.l.A) (s.l.n) (s.l.c)) rfl rfl ((KB17.out.on HB54.out).rng.at_ (m := 2) (by rw [HC.out]; rfl)) (isAgg_no Try.underlying23 rfl)) (fun a86 hM85 => ?_)
        clear hM83
        refine s_val hM85 (.inl rfl) rfl rfl (ev_len rfl rfl Try.underlying23) (fun a88 hM87 => ?_)
        clear hM85
        refine s_val hM87 (.inl rfl) rfl rfl (ev_bin rfl rfl rfl g_int (b_lss (b := true) (by rw [decide_eq_true_eq]; omega))) (fun a90 hM89 => ?_)
        clear hM87
        refine s_val hM89 (.inl rfl) rfl rfl (ev_move (.inl rfl) rfl) (fun a92 hM91 => ?_)
        clear hM89
        refine s_val hM91 (.inr ⟨_, _, _, rfl, rfl, rfl⟩) rfl rfl (ev_move (.inl rfl) rfl) (fun a94 hM93 => ?_)
        clear hM91
        refine s_val hM93 (.inr ⟨_, _, _, rfl, rfl, rfl⟩) rfl rfl (ev_bin rfl rfl rfl g_int (b_lss (b := false) (by rw [decide_eq_false_iff_not]; omega))) (fun a96 hM95 => ?_)
        clear hM93
        refine s_val hM95 (.inl rfl) rfl rfl (ev_pick rfl rfl rfl) (fun a98 hM97 => ?_)
        clear hM95
        refine seg_nil (hK80 _ _ ?_)
        clear hK80 K80 QK80
        have hM99 := hM97.cut4 (t1 := 1) (t2 := 3) (t3 := 4) (t4 := 16) rfl rfl rfl rfl
        clear hM97
        refine wp_cond_false (hM99.ev (t := 16) rfl) ?_
        refine wp_exit ?_
        repeat (with_reducible refine th_e ?_)
        refine inb_e ?_
        have hM100 := hM99.cut2 (t1 := 1) (t2 := 3) rfl rfl
        clear hM99
        exact jq_n ⟨j, AL, cL, ys, hM100, HB54, (hide (HK5.out.on HB57.out)), (hide (HOL.out.below HB57.out)), (hide (HEL.out.below HB57.out)), HLN⟩
      case pos =>
        refine region_then fun K101 QK101 hK101 => ?_
        refine s_val hM53 (.inl rfl) rfl rfl (ev_move (.inl rfl) rfl) (fun a103 hM102 => ?_)
        clear hM53
        refine s_val hM102 (.inl rfl) rfl rfl (ev_fldw (m := 2) rfl rfl (fun w => by simp [go_sem])) (fun a105 hM104 => ?_)
        clear hM102
        refine s_val hM104 (.inl rfl) rfl rfl (ev_load1 (v := .slice (s.l.A) (s.l.n) (s.l.c)) rfl rfl ((KB17.out.on HB54.out).rng.at_ (m := 2) (by rw [HC.out]; rfl)) (isAgg_no Try.underlying23 rfl)) (fun a107 hM106 => ?_)
        clear hM104
        refine s_val hM106 (.inl rfl) rfl rfl (ev_len rfl rfl Try.underlying23) (fun a109 hM108 => ?_)
        clear hM106
        refine s_val hM108 (.inl rfl) rfl rfl (ev_bin rfl rfl rfl g_int (b_lss (b := true) (by rw [decide_eq_true_eq]; omega))) (fun a111 hM110 => ?_)
        clear hM108
        refine s_val hM110 (.inl rfl) rfl rfl (ev_move (.inl rfl) rfl) (fun a113 hM112 => ?_)
        clear hM110
        refine s_val hM112 (.inr ⟨_, _, _, rfl, rfl, rfl⟩) rfl rfl (ev_move (.inl rfl) rfl) (fun a115 hM114 => ?_)
        clear hM112
        refine s_val hM114 (.inr ⟨_, _, _, rfl, rfl, rfl⟩) rfl rfl (ev_bin rfl rfl rfl g_int (b_lss (b := true) (by rw [decide_eq_true_eq]; omega))) (fun a117 hM116 => ?_)
        clear hM114
        refine s_val hM116 (.inl rfl) rfl rfl (ev_pick rfl rfl rfl) (fun a119 hM118 => ?_)
        clear hM116
        refine seg_nil (hK101 _ _ ?_)
        clear hK101 K101 QK101
        have hM120 := hM118.cut4 (t1 := 1) (t2 := 3) (t3 := 4) (t4 := 16) rfl rfl rfl rfl
        clear hM118
        refine wp_cond_true (hM120.ev (t := 16) rfl) ?_
        refine wp_skip ?_
        refine hK58 _ _ ?_
        refine wp_seq_k fun K121 hK121 => ?_
        refine wp_block ?_
        have HBS := HB54
        obtain ⟨x, v, hxv_⟩ : ∃ x v, xs[j]? = some (x, v) := ⟨_, _, List.getElem?_eq_getElem (by rw [HS.out.l.1]; omega)⟩
        have hxv := hide hxv_
        clear hxv_
        have HMA := hide (HS.out.l.2 j (x, v) hxv.out)
        obtain ⟨bb, off, hA, hbl, hc⟩ := HMA.out.at_
        obtain ⟨MC, HMC⟩ : ∃ C : Array Value, Hid (C = msC x v) := ⟨_, rfl⟩
        have HRMC : Hid (Rng w5 bb (off + j * 18) MC) := ⟨hbl, by rw [HMC.out]; exact hc⟩
        have HMS := hide HMA.out.s
        have HML := hide HMA.out.l
        have HMD := hide HMA.out.d
        clear hc hbl HMA
        have HD9 : Hid (v.ds.n * 8 ≤ 140737488351232) := (HD8.out (x, v) (mem_of_at hxv.out))
        refine region_then fun K122 QK122 hK122 => ?_
        refine s_val hM120 (.inl rfl) rfl rfl (ev_fldw (m := 2) rfl rfl (fun w => by simp [go_sem])) (fun a124 hM123 => ?_)
        clear hM120
        refine s_val hM123 (.inl rfl) rfl rfl (ev_load1 (v := .slice (s.l.A) (s.l.n) (s.l.c)) rfl rfl ((KB17.out.on HB54.out).rng.at_ (m := 2) (by rw [HC.out]; rfl)) (isAgg_no Try.underlying23 rfl)) (fun a126 hM125 => ?_)
        clear hM123
        refine s_val hM125 (.inl rfl) rfl rfl (ev_move (.inl rfl) rfl) (fun a128 hM127 => ?_)
        clear hM125
        refine s_val hM127 (.inl rfl) rfl rfl (ev_idx (b := bb) (k := j) (sz := 18) (p := off + j * 18) rfl (by rw [← hA]; rfl) rfl Try.underlying23 (by kernel_rfl) hlt (by omega)) (fun a130 hM129 => ?_)
        clear hM127
        refine s_val hM129 (.inl rfl) rfl rfl (ev_loadm rfl rfl (HRMC.out.below HB54.out) Try.underlying42 rfl (by rw [HMC.out]; exact Try.infoMsg)) (fun a132 hM131 => ?_)
        clear hM129
        refine s_new hM131 rfl rfl rfl rfl alloc_msg rfl rfl rfl rfl (by rw [HMC.out]; exact Try.infoMsg) (by rw [HMC.out]; rfl) (one_msg HMC.out) (fun g133 a139 w134 hM138 KB137_ hb135 hg136 => ?_)
        have KB137 := hide KB137_
        clear hM131 KB137_
        have lo140 := hide (Nat.le_trans HB54.out.size hg136)
        have lo141 := hide (Nat.le_trans HB57.out.size hg136)
        clear hg136
        have HB142 := hide (below_then HB54.out hb135)
        have HB143 := hide (below_then HB57.out hb135)
        clear hb135 HB54 HB57
        have HB145 : Hid (Below w134.heap.size w134 w134) := Below.refl _ _
        have HL7 := lo141
        refine seg_nil (hK122 _ _ ?_)
        clear hK122 K122 QK122
        have hM146 := hM138.cut4 (t1 := 1) (t2 := 3) (t3 := 4) (t4 := 5) rfl rfl rfl rfl
        clear hM138
        refine region_then fun K147 QK147 hK147 => ?_
        refine s_alloc (e := 3) hM146 (.inl rfl) rfl rfl (V := fun g => .slice (some ⟨g, 0, none⟩) 0 0) (ev_bsg (C := #[]) (xs := []) hM146 rfl rfl (fun w => by kernel_rfl)) (fun g152 a149 w150 hM148 kb hb151 hg153 => ?_)
        have HDS : Hid (OwnR w150 w51.heap.size 3 1 (.slice (some ⟨g152, 0, none⟩) 0 0) 0 (ints [])) := own_empty kb (Nat.le_trans HB143.out.size hg153)
        clear kb hg153 hM146
        have HB154 := hide (below_then HB142.out hb151)
        have HB155 := hide (below_then HB143.out hb151)
        have HB156 := hide (below_then HB145.out hb151)
        clear hb151 HB142 HB143 HB145
        have HB158 : Hid (Below w150.heap.size w150 w150) := Below.refl _ _
        refine s_val hM148 (.inl rfl) rfl rfl (ev_fldw (m := 17) rfl rfl (fun w => by simp [go_sem])) (fun a160 hM159 => ?_)
        clear hM148
        refine s_val hM159 (.inl rfl) rfl rfl (ev_load1 (v := .slice (v.ds.A) (v.ds.n) (v.ds.c)) rfl rfl ((KB137.out.on HB156.out).rng.at_ (m := 17) (by rw [HMC.out]; rfl)) (isAgg_no Try.underlying22 rfl)) (fun a162 hM161 => ?_)
        clear hM159
        obtain ⟨i0, hi, hz0, hz1, hz2⟩ := info_parts Try.infoInt
        have hO := (HDS.out.below HB158.out)
        refine s_appends hM161 (.inl rfl) rfl rfl rfl w51.heap.size 3 i0 (.int .i64 0) 1 8 Try.underlying22 hi hz0 hz1 hz2 rfl (by decide) 0 (ints []) rfl hO v.ds.A v.ds.n v.ds.c (ints x.s) rfl ((HMS.out.below HB154.out)).ds (ints_one _) (by have := HD9.out; unfold maxLen; omega) (by have := HD9.out; omega) HB155.out.size (fun v3 a164 w165 hM163 ho hgr => ?_)
        obtain ⟨Ac, cc, rfl⟩ := own_slice ho
        have HDT : Hid (OwnR w165 w51.heap.size 3 1 (.slice Ac (0 + v.ds.n) cc) (0 + v.ds.n) (ints [] ++ ints x.s)) := ho
        clear ho
        have HB166 := hide (HB154.out.grown hgr HB154.out.size (fun b hb => Nat.le_trans HBS.out.size (hO.lt b hb).1))
        have HB167 := hide (HB155.out.grown hgr HB155.out.size (fun b hb => Nat.le_trans (Nat.le_refl _) (hO.lt b hb).1))
        have KB168 := hide (((KB137.out.on HB156.out)).grown hgr (Ne.symm (own_blk_ne hO (KB137.out.on HB156.out) (by decide))))
        clear hO hgr HDS hM161 HB154 HB155 HB156 HB158 KB137
        have HB170 : Hid (Below w165.heap.size w165 w165) := Below.refl _ _
        have HDS := HDT
        clear HDT
        refine s_alloc (e := 3) hM163 (.inl rfl) rfl rfl (V := fun g => .slice (some ⟨g, 0, none⟩) 1 1) (ev_bslice1 hM163 rfl (fun w => by kernel_rfl)) (fun g171 a177 w172 hM176 KB175_ hb173 hg174 => ?_)
        have KB175 := hide KB175_
        clear hM163 KB175_
        clear hg174
        have HB178 := hide (below_then HB166.out hb173)
        have HB179 := hide (below_then HB167.out hb173)
        have HB180 := hide (below_then HB170.out hb173)
        clear hb173 HB166 HB167 HB170
        have HB182 : Hid (Below w172.heap.size w172 w172) := Below.refl _ _
        obtain ⟨i0, hi, hz0, hz1, hz2⟩ := info_parts Try.infoInt
        have hO := (HDS.out.below HB180.out)
        refine s_append hM176 (.inl rfl) rfl rfl rfl w51.heap.size 3 i0 (.int .i64 0) 1 8 Try.underlying22 hi hz0 hz1 hz2 rfl (by decide) (0 + v.ds.n) (ints [] ++ ints x.s) rfl hO ⟨g171, 0, none⟩ 1 1 [.int .i64 (-1)] rfl rfl (news_blk (KB175.out.on HB182.out)) (one_int _ _) (by have := HD9.out; unfold maxLen; omega) (by have := HD9.out; omega) HB179.out.size (fun v3 a184 w185 hM183 ho hgr hat => ?_)
        obtain ⟨Ad, cd, rfl⟩ := own_slice ho
        have HDT : Hid (OwnR w185 w51.heap.size 3 1 (.slice Ad (v.ds.n + 1) cd) (v.ds.n + 1) (ints x.s ++ [.int .i64 (-1)])) := by
          have h := ho
          rw [show (0 + v.ds.n) + 1 = v.ds.n + 1 by omega] at h
          exact h
        rw [show (0 + v.ds.n) + 1 = v.ds.n + 1 by omega] at hM183
        clear ho hat
        have HB186 := hide (HB178.out.grown hgr HB178.out.size (fun b hb => Nat.le_trans HBS.out.size (hO.lt b hb).1))
        have HB187 := hide (HB179.out.grown hgr HB179.out.size (fun b hb => Nat.le_trans (Nat.le_refl _) (hO.lt b hb).1))
        have KB188 := hide (((KB168.out.on HB180.out)).grown hgr (Ne.symm (own_blk_ne hO (KB168.out.on HB180.out) (by decide))))
        clear hO hgr HDS hM176 HB178 HB179 HB180 HB182 KB168
        have HB190 : Hid (Below w185.heap.size w185 w185) := Below.refl _ _
        have HDS := HDT
        clear HDT
        refine s_val hM183 (.inl rfl) rfl rfl (ev_fldw (m := 17) rfl rfl (fun w => by simp [go_sem])) (fun a192 hM191 => ?_)
        clear hM183
        have hO := (HDS.out.below HB190.out)
        have hk7 := (KB188.out.on HB190.out)
        refine s_put hM191 rfl rfl rfl rfl rfl hk7 (by rw [HMC.out, msC_sz]; decide) (st_slice Try.underlying22 (by kernel_rfl)) (fun w193 kd hg => ?_)
        obtain ⟨D2, HD2⟩ : ∃ D2 : Array Value, Hid (D2 = msC (xS x) (u3_ v Ad (v.ds.n + 1) cd)) := ⟨_, rfl⟩
        have KD : Hid (Blk w193 g133 42 D2) := by have h := kd; rw [HMC.out, set_ds] at h; rw [HD2.out]; exact h
        have HDT := hide (show OwnR _ _ _ _ _ _ _ from own_keep hO hg (fun b hb => by injection hb with hb; subst hb; exact own_blk_ne hO hk7 (by decide)))
        have HB194 := hide (HB186.out.grown hg HB186.out.size (fun b hb => by injection hb with hb; subst hb; exact Nat.le_trans HBS.out.size HL7.out))
        have HB195 := hide (HB187.out.grown hg HB187.out.size (fun b hb => by injection hb with hb; subst hb; exact HL7.out))
        clear hO hk7 kd hg HDS HB186 HB187 HB190 KB188
        have HDS := HDT
        clear HDT
        have HB197 : Hid (Below w193.heap.size w193 w193) := Below.refl _ _
        refine seg_nil (hK147 _ _ ?_)
        clear hK147 K147 QK147
        have hM198 := hM191.cut4 (t1 := 1) (t2 := 3) (t3 := 4) (t4 := 5) rfl rfl rfl rfl
        clear hM191
        obtain ⟨E2, HE2⟩ : ∃ E : Array Value, Hid (E = msC (kM x.k) zV) := ⟨_, rfl⟩
        refine region_last fun K199 QK199 hK199 => ?_
        refine s_val hM198 (.inl rfl) rfl rfl (ev_fldw (m := 2) rfl rfl (fun w => by simp [go_sem])) (fun a201 hM200 => ?_)
        clear hM198
        refine s_val hM200 (.inl rfl) rfl rfl (ev_load1 (v := .slice AL (ys.length) cL) rfl rfl ((HK5.out.on HB195.out).rng.at_ (m := 2) rfl) (isAgg_no Try.underlying23 rfl)) (fun a203 hM202 => ?_)
        clear hM200
        refine s_val hM202 (.inl rfl) rfl rfl (ev_loadm rfl rfl (KD.out.on HB197.out).rng Try.underlying42 rfl (by rw [HD2.out]; exact Try.infoMsg)) (fun a205 hM204 => ?_)
        clear hM202
        refine s_val hM204 (.inl rfl) rfl rfl (ev_fldw (m := 0) rfl rfl (fun w => by simp [go_sem])) (fun a207 hM206 => ?_)
        clear hM204
        refine s_val hM206 (.inl rfl) rfl rfl (ev_load1 (v := .int .i64 (x.k)) rfl rfl ((KD.out.on HB197.out).rng.at_ (m := 0) (by rw [HD2.out]; rfl)) (isAgg_no Try.underlying3 rfl)) (fun a209 hM208 => ?_)
        clear hM206
        refine s_val hM208 (.inl rfl) rfl rfl (ev_buildg (v := .agg E2) rfl rfl (fun w => build_k HE2.out w)) (fun a211 hM210 => ?_)
        clear hM208
        refine s_alloc (e := 42) hM210 (.inl rfl) rfl rfl (V := fun g => .slice (some ⟨g, 0, none⟩) 2 2) (ev_bsg (C := D2 ++ E2) hM210 rfl rfl (fun w => build2m w HD2.out HE2.out)) (fun g216 a213 w214 hM212 kb hb215 hg => ?_)
        have KB2 := hide kb
        clear kb hg hM210
        have HB217 := hide (below_then HB194.out hb215)
        have HB218 := hide (below_then HB195.out hb215)
        have HB219 := hide (below_then HB197.out hb215)
        clear hb215 HB194 HB195 HB197
        have HB221 : Hid (Below w214.heap.size w214 w214) := Below.refl _ _
        obtain ⟨i0, hi, hz0, hz1, hz2⟩ := info_parts info_msg3
        have hO := (HOL.out.below HB218.out)
        have hE := (HEL.out.below HB218.out)
        have hD := (HDS.out.below HB219.out)
        have hK5 := (HK5.out.on HB218.out)
        refine s_append hM212 (.inl rfl) rfl rfl rfl w5.heap.size 42 i0 (.agg (msC zM zV)) 18 256 Try.underlying23 hi hz0 hz1 hz2 rfl (by decide) ys.length (flat ys) rfl hO ⟨g216, 0, none⟩ 2 2 (D2 ++ E2).toList rfl (by rw [HD2.out, HE2.out]; rfl) (news_row (KB2.out.on HB221.out)) (by rw [Array.toList_append]; intro u hu; exact (List.mem_append.1 hu).elim (one_msg HD2.out u) (one_msg HE2.out u)) (by have := HLN.out; unfold maxLen; omega) (by have := HLN.out; omega) HB217.out.size (fun V2 a223 w224 hM222 ho hgr hat => ?_)
        obtain ⟨AL2, cL2, rfl⟩ := own_slice ho
        rw [Array.toList_append, HD2.out, HE2.out] at ho
        have HO2 : Hid (OwnR w224 w5.heap.size 42 18 (.slice AL2 (ys ++ [(xS x, u3_ v Ad (v.ds.n + 1) cd), (kM x.k, zV)]).length cL2) (ys ++ [(xS x, u3_ v Ad (v.ds.n + 1) cd), (kM x.k, zV)]).length (flat (ys ++ [(xS x, u3_ v Ad (v.ds.n + 1) cd), (kM x.k, zV)]))) := by rw [flat_snoc2, List.length_append]; exact ho
        have HE3 := hide ((hE.grow hO hgr (by decide)).snoc2 (ElS.xS HMS.out HML.out HD9.out (own_mono (own_keep hD hgr (fun _ hb => own_own_ne hO hD (by decide) hb)) HBS.out.size)) (ElS.kM (k := x.k)))
        have HB225 := hide (below_grown_own HB217.out hO hgr)
        have KB226 := hide (hK5.grown hgr (Ne.symm (own_blk_ne hO hK5 (by decide))))
        have HLN2 : Hid ((ys ++ [(xS x, u3_ v Ad (v.ds.n + 1) cd), (kM x.k, zV)]).length ≤ 2 * (j + 1) ∧ j + 1 ≤ 12) := ⟨by rw [List.length_append]; have := HLN.out.1; show ys.length + 2 ≤ _; omega, by omega⟩
        clear hO hE hD hK5 ho hgr hat HOL HEL HDS hM212 HB217 HB218 HB219 HB221 HK5
        have HOL := HO2
        have HEL := HE3
        clear HO2 HE3
        have HB228 : Hid (Below w224.heap.size w224 w224) := Below.refl _ _
        refine s_val hM222 (.inl rfl) rfl rfl (ev_fldw (m := 2) rfl rfl (fun w => by simp [go_sem])) (fun a230 hM229 => ?_)
        clear hM222
        have hO := (HOL.out.below HB228.out)
        have hE := (HEL.out.below HB228.out)
        have hk5 := (KB226.out.on HB228.out)
        refine s_put (v := .slice AL2 (ys.length + 2) cL2) hM229 rfl rfl rfl rfl rfl hk5 (by rw [scC_sz]; decide) (st_slice Try.underlying23 (by kernel_rfl)) (fun w231 kd hg => ?_)
        have KB232 : Hid (Blk w231 g23 26 (scC N (sV s ⟨AL2, (ys ++ [(xS x, u3_ v Ad (v.ds.n + 1) cd), (kM x.k, zV)]).length, cL2⟩ s.pu))) := by
          have h := kd
          have e : (ys ++ [(xS x, u3_ v Ad (v.ds.n + 1) cd), (kM x.k, zV)]).length = ys.length + 2 := List.length_append
          rw [set_l] at h
          rw [e]
          exact h
        have HO2 := hide (show OwnR _ _ _ _ _ _ _ from own_keep hO hg (fun b hb => by injection hb with hb; subst hb; exact own_blk_ne hO hk5 (by decide)))
        have HE3 := hide (hE.store hk5 hg (by decide))
        have HB233 := hide (HB225.out.grown hg HB225.out.size (fun b hb => by injection hb with hb; subst hb; exact HG5.out))
        clear hO hE hk5 kd hg HOL HEL HB225 HB228 KB226
        have HOL := HO2
        have HEL := HE3
        clear HO2 HE3
        have HB235 : Hid (Below w231.heap.size w231 w231) := Below.refl _ _
        refine seg_nil (hK199 _ _ ?_)
        clear hK199 K199 QK199
        have hM236 := hM229.cut3 (t1 := 1) (t2 := 3) (t3 := 4) rfl rfl rfl
        clear hM229
        refine inb_n ?_
        refine hK121 _ _ ?_
        refine region_last fun K237 QK237 hK237 => ?_
        refine s_val hM236 (.inl rfl) rfl rfl (ev_move (.inl rfl) rfl) (fun a239 hM238 => ?_)
        clear hM236
        refine s_val hM238 (.inl rfl) rfl rfl (ev_bin rfl rfl rfl g_int (b_add (r := ((j + 1 : Nat) : Int)) (by omega) (by omega))) (fun a241 hM240 => ?_)
        clear hM238
        refine s_val hM240 (.inl rfl) rfl rfl (ev_move (.inr rfl) rfl) (fun a243 hM242 => ?_)
        clear hM240
        refine seg_nil (hK237 _ _ ?_)
        clear hK237 K237 QK237
        have hM244 := hM242.cut3 (t1 := 1) (t2 := 3) (t3 := 4) rfl rfl rfl
        clear hM242
        have hM245 := hM244.cut3 (t1 := 4) (t2 := 1) (t3 := 3) rfl rfl rfl
        clear hM244
        exact ⟨s.l.n - (j + 1), by omega, j + 1, AL2, cL2, (ys ++ [(xS x, u3_ v Ad (v.ds.n + 1) cd), (kM x.k, zV)]), rfl, hM245, HB233, (hide (KB232.out.on HB235.out)), (hide (HOL.out.below HB235.out)), (hide (HEL.out.below HB235.out)), HLN2⟩
  ·
    clear HB41 HB43 hM50 HOL HEL HLN HK5
    rintro a248 w246 ⟨j, AL, cL, ys, hM247, HB249, HK5, HOL, HEL, HLN⟩
    have HB251 : Hid (Below w246.heap.size w246 w246) := Below.refl _ _
    refine hK45 _ _ ?_
    refine region_then fun K252 QK252 hK252 => ?_
    refine s_val hM247 (.inl rfl) rfl rfl (ev_loadm rfl rfl (HK5.out.on HB251.out).rng Try.underlying26 rfl info_scr) (fun a254 hM253 => ?_)
    clear hM247
    refine s_call hM253 (.inl rfl) rfl rfl (f := 3) (args := #[.agg ((scC N (sV s ⟨AL, ys.length, cL⟩ s.pu)))]) (ev_call hM253 rfl rfl rfl (fun w => by simp [go_sem]) _) (real_exact N (sV s ⟨AL, ys.length, cL⟩ s.pu) ls ys pb who wch _ (hide (scr_mk2 HS.out HB249.out (HOL.out.below HB251.out) (HEL.out.below HB251.out))) (hide ⟨HZ.out.li, (by have h := HLN.out; show ys.length ≤ 9223372036854775807; omega), HZ.out.pu, HZ.out.wo, HZ.out.wi, HZ.out.zo, HZ.out.zi⟩) (hide rfl)) (fun e w255 hp => ?_)
    obtain ⟨rfl, hb256⟩ := hp
    refine ⟨_, rfl, fun a258 hM257 => ?_⟩
    clear hM253
    have HB259 := hide (below_then HB249.out hb256)
    have HB260 := hide (below_then HB251.out hb256)
    clear hb256 HB249 HB251
    refine s_val hM257 (.inl rfl) rfl rfl (ev_move (.inr rfl) rfl) (fun a262 hM261 => ?_)
    clear hM257
    refine seg_nil (hK252 _ _ ?_)
    clear hK252 K252 QK252
    have hM263 := hM261.cut1 (t1 := 2) rfl
    clear hM261
    refine wp_ret ?_
    repeat (with_reducible first | refine th_r ?_ | refine inb_r ?_ | refine js_r ?_ | refine jq_r ?_)
    refine ret_of (t := 2) rfl hM263 rfl ?_
    exact ⟨rfl, below_then HB00.out HB259.out⟩
end Go.Proofs.Ytebaojcfmkobjaa
