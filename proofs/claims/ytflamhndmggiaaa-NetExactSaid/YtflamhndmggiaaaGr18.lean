/-
  Texts joined: words and contracts that later texts use; lemmas alone, no conditions of a statement.
-/
import Derived.Test.YtflamhndmggiaaaGr17
import Derived.Test.YtflamhndmggiaaaNtD
set_option linter.unusedVariables false
set_option linter.unusedSimpArgs false
/-
  The reference net's Put.
-/
namespace Go.Proofs.Ytflamhndmggiaaa
open Go.RowKit

def RfN (F : Nat → Prop) (w w' : World) (r k : Nat) (S : Int × Int → List (List UInt8)) : Prop := ∃ F' Vl ws, RfJ F' w' r Vl ws ∧ LookW ws S ∧ ws.length ≤ k ∧ (∀ q, F' q → F q ∨ w.heap.size ≤ q) ∧ Chg F w w'
def PutM (F : Nat → Prop) (w w' : World) (r : Nat) (fa fb : Int) (S : Int × Int → List (List UInt8)) (k : Nat) (Vl : Value) (E : Nat → List RW → Prop) : Prop := ∃ F' A c ws i x, RfJ F' w' r (.slice A ws.length c) ws ∧ LookW ws S ∧ FirstW ws fa fb i x ∧ ws.length ≤ k ∧ (∀ q, F' q → F q ∨ w.heap.size ≤ q) ∧ Chg F w w' ∧ Chg (fun b => Vl.ownBlock = some b ∨ b = r) w w' ∧ E i ws
def putC (S : Int × Int → List (List UInt8)) (a b : Int) : Int := if (nodeB a && nodeB b) = true then (if (S (a, b)).length < 1024 then 0 else 8) else 1
def putS (S : Int × Int → List (List UInt8)) (a b : Int) (y : List UInt8) : (Int × Int → List (List UInt8)) := if (nodeB a && nodeB b) = true ∧ (S (a, b)).length < 1024 then updF S (a, b) (S (a, b) ++ [y]) else S
section
variable {F F1 : Nat → Prop} {w w1 w2 w3 w4 w5 : World} {r : Nat} {Vl : Value} {ws : List RW} {S : Int × Int → List (List UInt8)} {fa fb : Int} {k i : Nat} {x : RW}
theorem rn_same (h : RfJ F w r Vl ws) (hl : LookW ws S) (hk : ws.length ≤ k) (hb : Below w.heap.size w w1) : RfN F w w1 r k S := ⟨F, Vl, ws, h.below hb, hl, hk, fun _ => .inl, Chg.of_below hb⟩
theorem putM_old {A : Option Addr} {c : Nat} (h : RfJ F w r (.slice A ws.length c) ws) (hl : LookW ws S) (hf : FirstW ws fa fb i x) (hk : ws.length ≤ k) (hb : Below w.heap.size w w1) : PutM F w w1 r fa fb S k (.slice A ws.length c) (fun j _ => j = i) := ⟨F, A, c, ws, i, x, h.below hb, hl, hf, hk, fun _ => .inl, Chg.of_below hb, Chg.of_below hb, rfl⟩
theorem putM_new {A A3 : Option Addr} {c c3 : Nat} (h : RfJ F w r (.slice A ws.length c) ws) (hl : LookW ws S) (hn : NoneW ws fa fb) (hk : ws.length + 1 ≤ k) (hb : Below w.heap.size w w1) (o3 : w3.ownsRow 0 120 3 (.slice A3 (ws.length + 1) c3) (ws.length + 1) (rwsC ws ++ rwC ⟨fa, fb, nilV, []⟩)) (hg : w1.grownBy w3 (Value.slice A ws.length c).ownBlock)
    (hV : (Value.slice A3 (ws.length + 1) c3).ownBlock = (Value.slice A ws.length c).ownBlock ∨ (Value.slice A3 (ws.length + 1) c3).ownBlock = some w1.heap.size) (k4 : Blk w4 r 78 #[.slice A3 (ws.length + 1) c3]) (hg4 : w3.grownBy w4 (some r)) : PutM F w w4 r fa fb S k (.slice A ws.length c) (fun j l => l.length = j + 1) := by
  obtain ⟨k1, k2, k6⟩ := h.push fa fb hb o3 hg hV k4 hg4
  obtain ⟨k3, k5⟩ := hl.push hn
  refine ⟨fun b => F b ∨ (w.heap.size ≤ b ∧ b < w4.heap.size), A3, c3, ws ++ [⟨fa, fb, nilV, []⟩], ws.length, ⟨fa, fb, nilV, []⟩, by rw [List.length_append]; exact k1, k3, k5, by rw [List.length_append]; exact hk, fun q hq => hq.elim .inl (fun h => .inr h.1), k2, k6, by show (ws ++ [_]).length = ws.length + 1; rw [List.length_append]; rfl⟩
theorem RfJ.rd {g c : Nat} (h : RfJ F w r Vl ws) (hi : ws[i]? = some x) (hA : Vl = .slice (some ⟨g, 0, none⟩) ws.length c) (hr : Rng w g (i * 3) (rwA x)) (hc : Chg (fun b => x.V.ownBlock = some b) w w1) : Rng w1 r 0 #[Vl] ∧ Rng w1 g (i * 3) (rwA x) := by
  have hx := mem_of_at hi
  have k1 := h.k.chg hc (fun e => own_blk_ne (h.row x hx) h.k (by decide) e)
  refine ⟨k1.rng, Nat.lt_of_lt_of_le hr.1 hc.size, fun j u hu => ?_⟩
  rw [World.cell?_of_block (a := ⟨g, i * 3 + j, none⟩) (hc.at_ hr.1 (fun e => own_two_ne h.own (h.row x hx) (by decide) (by rw [hA]; rfl) e))]
  exact hr.2 j u hu
theorem vals_rw (h : RfJ F w r Vl ws) (hx : x ∈ ws) : ∀ u ∈ x.es.map (·.1), u.oneCell' = true := fun u hu => by
  obtain ⟨p, hp, rfl⟩ := List.mem_map.1 hu
  exact one_own (h.el x hx p hp) _ (by simp)
theorem rf_put_end {g c n : Nat} {y : List UInt8} {V2 u : Value} (h : RfJ F1 w1 r Vl ws) (hl : LookW ws S) (hf : FirstW ws fa fb i x) (hk : ws.length ≤ k) (hF : ∀ q, F1 q → F q ∨ w.heap.size ≤ q) (hcw : Chg F w w1) (hA : Vl = .slice (some ⟨g, 0, none⟩) ws.length c)
    (hb : Below w1.heap.size w1 w2) (ou : w2.ownsRow w1.heap.size 5 1 u n (bytes8 y)) (hy : n ≤ 1048576) (hlt : x.es.length < 1024) (hb3 : Below w2.heap.size w2 w3) (o4 : w4.ownsRow 0 28 1 V2 (x.es.length + 1) (x.es.map (·.1) ++ [u])) (hg4 : w3.grownBy w4 x.V.ownBlock)
    (hat : V2.ownBlock = x.V.ownBlock ∨ V2.ownBlock = some w3.heap.size) (hg5 : w4.grownBy w5 (some g)) (o5 : ∀ es, w5.ownsRow 0 120 3 Vl ws.length (rwsC (ws.set i ⟨x.a, x.b, V2, es⟩))) : RfN F w w5 r k (updF S (fa, fb) (S (fa, fb) ++ [y])) := by
  have hxm := mem_of_at hf.at_
  have hn : y.length = n := by have := ou.1; rw [bytes8_len] at this; omega
  subst hn
  have hb13 := below_then hb hb3
  have hc4 : Chg (fun b => x.V.ownBlock = some b) w1 w4 := (Chg.of_below hb13).then_grown hg4 (fun b e => .inl e)
  have ou4 : w4.ownsRow 0 5 1 u y.length (bytes8 y) := own_mono (own_at (own_later ou hb3) (fun b hb' => hg4.block b (own_in (own_later ou hb3) hb') (fun e => by
    have h1 := own_later (h.row x hxm) hb13
    exact own_two_ne (own_later ou hb3) h1 (by decide) hb' e.symm))) (Nat.zero_le _)
  obtain ⟨k1, k2⟩ := h.put (V := V2) (es := x.es ++ [(u, y)]) hf.at_ hA hc4 (by rw [List.length_append, List.map_append]; exact o4) (fun p hp => by
      rcases List.mem_append.1 hp with hp | hp
      · exact own_at (h.el x hxm p hp) (fun b hb' => hc4.at_ (own_in (h.el x hxm p hp) hb') (fun e => own_two_ne (h.el x hxm p hp) (h.row x hxm) (by decide) hb' e))
      · obtain rfl : p = (u, y) := by simpa using hp
        exact ou4)
    (fun b hb' => by
      rcases hat with e | e
      · exact .inl (by rw [← e]; exact hb')
      · rw [e] at hb'; injection hb' with hb'; subst hb'; exact .inr hb13.size)
    (fun p hp b hb' => by
      rcases List.mem_append.1 hp with hp | hp
      · exact .inl (h.fel x p b hxm hp hb')
      · obtain rfl : p = (u, y) := by simpa using hp
        exact .inr (ou.lt b hb').1)
    (by rw [List.length_append]; exact hlt) (fun p hp => by
      rcases List.mem_append.1 hp with hp | hp
      · exact h.sm x p hxm hp
      · obtain rfl : p = (u, y) := by simpa using hp
        exact hy) hg5 (o5 _)
  refine ⟨_, Vl, _, k1, ?_, by rw [List.length_set]; exact hk, fun q hq => hq.elim (hF q) (fun h => .inr (Nat.le_trans hcw.size h.1)), hcw.trans k2 (fun b hb' => hF b hb')⟩
  have hL := hl.set_ hf V2 (x.es ++ [(u, y)])
  rw [List.map_append, ← (hl fa fb).2 i x hf] at hL
  exact hL
end
theorem rf_nodeR (n : Int) (w : World) {b : Bool} (h : Hid (nodeB n = b)) : Calls Try.prog 78 #[.int .i64 n] w fun e w' => e = .returned (.bool b) ∧ w = w' := by
  have := rf_node n w
  rw [h.out] at this
  exact this
theorem info_rw : (Try.prog.info? 120).map (fun i => (i.zero, i.size, i.bytes)) = some (some (.agg #[.int .i64 0, .int .i64 0, .slice none 0 0]), 3, 40) := by kernel_rfl
theorem news_rw {w : World} {g : Nat} {t : TypeId} {D : Array Value} (h : Blk w g t D) : ∀ j u, D.toList[j]? = some u → w.cell? ((⟨g, 0, none⟩ : Addr).add j) = some u := fun j u hu => by
  rw [add_lit, Nat.zero_add]; exact h.at_ (by simpa using hu)
theorem one_rw {a b : Int} : ∀ u ∈ (rwC ⟨a, b, nilV, []⟩), u.oneCell' = true := by
  intro u hu
  simp [rwC, nilV] at hu
  rcases hu with rfl | rfl | rfl <;> rfl

set_option maxRecDepth 100000 in
set_option maxHeartbeats 4000000 in
theorem rf_Put {F : Nat → Prop} {w : World} {r : Nat} {Vl : Value} {ws : List RW} (fa fb : Int) (h : RfJ F w r Vl ws) {S : Int × Int → List (List UInt8)} {k n3 c3 : Nat} {A3 : Option Addr} {y : List UInt8} (hl : LookW ws S) (hk : ws.length + 1 ≤ k) (hk2 : k ≤ 1000) (hs : Sl w 1 A3 n3 (bytes8 y)) (hx : n3 ≤ 1048576) (hsep : 0 < n3 → ∀ b off, A3 = some ⟨b, off, none⟩ → ¬ (Vl.ownBlock = some b ∨ b = r)) :
    Calls Try.prog 55 #[.pointer (some ⟨r, 0, none⟩), .int .i64 fa, .int .i64 fb, .slice A3 n3 c3] w fun e w' => e = .returned (.int .i64 (putC S fa fb)) ∧ RfN F w w' r k (putS S fa fb y) := by
  have ho := h.own
  obtain ⟨A, c, rfl, hcap, hmax⟩ := own_slice_cap ho
  unfold maxLen at hmax
  clear ho
  have HJ := hide h
  have HK := hide h.k.rng
  have HL := hide hl
  have HS := hide hs
  clear h hl hs
  go_enter Try.func55, Try.ntmps55
  refine act_off 71 [(0, .pointer (some ⟨r, 0, none⟩)), (1, .int .i64 fa), (2, .int .i64 fb), (3, .slice A3 n3 c3)] (Frm.start rfl (by intro p hp; simp only [List.mem_cons, List.not_mem_nil, or_false] at hp; rcases hp with rfl | rfl | rfl | rfl <;> rfl)) (fun a0 hM => ?_)
  have HB2 : Hid (Below w.heap.size w w) := Below.refl _ _
  refine region_then fun K3 QK3 hK3 => ?_
  refine s_val hM (.inl rfl) rfl rfl (ev_move (.inr rfl) rfl) (fun a5 hM4 => ?_)
  clear hM
  refine seg_nil (hK3 _ _ ?_)
  clear hK3 K3 QK3
  have hM6 := hM4.cut4 (t1 := 0) (t2 := 1) (t3 := 2) (t4 := 3) rfl rfl rfl rfl
  clear hM4
  refine wp_seq_k fun K7 hK7 => ?_
  cases hna : nodeB fa
  case false =>
    have HNA := hide hna
    refine region_then fun K8 QK8 hK8 => ?_
    refine s_val hM6 (.inl rfl) rfl rfl (ev_move (.inl rfl) rfl) (fun a10 hM9 => ?_)
    clear hM6
    refine s_call hM9 (.inl rfl) rfl rfl (f := 78) (args := #[.int .i64 fa]) (ev_call hM9 rfl rfl rfl (fun w => by simp [go_sem]) _) (rf_nodeR _ _ HNA) (fun e w11 hp => ?_)
    obtain ⟨rfl, rfl⟩ := hp
    refine ⟨_, rfl, fun a14 hM13 => ?_⟩
    clear hM9
    refine s_val hM13 (.inl rfl) rfl rfl (ev_not rfl rfl rfl) (fun a16 hM15 => ?_)
    clear hM13
    refine s_val hM15 (.inl rfl) rfl rfl (ev_move (.inl rfl) rfl) (fun a18 hM17 => ?_)
    clear hM15
    refine s_skip hM17 rfl rfl rfl rfl rfl rfl (fun a20 hM19 => ?_)
    clear hM17
    refine s_skip hM19 rfl rfl rfl rfl rfl rfl (fun a22 hM21 => ?_)
    clear hM19
    refine s_skip hM21 rfl rfl rfl rfl rfl rfl (fun a24 hM23 => ?_)
    clear hM21
    refine s_val hM23 (.inl rfl) rfl rfl (ev_pick rfl rfl rfl) (fun a26 hM25 => ?_)
    clear hM23
    refine seg_nil (hK8 _ _ ?_)
    clear hK8 K8 QK8
    have hM27 := hM25.cut5 (t1 := 0) (t2 := 1) (t3 := 2) (t4 := 3) (t5 := 17) rfl rfl rfl rfl rfl
    clear hM25
    refine wp_cond_true (hM27.ev (t := 17) rfl) ?_
    refine region_then fun K28 QK28 hK28 => ?_
    refine s_val hM27 (.inl rfl) rfl rfl (ev_move (.inr rfl) rfl) (fun a30 hM29 => ?_)
    clear hM27
    refine seg_nil (hK28 _ _ ?_)
    clear hK28 K28 QK28
    have hM31 := hM29.cut1 (t1 := 8) rfl
    clear hM29
    refine wp_ret ?_
    repeat (with_reducible first | refine th_r ?_ | refine inb_r ?_ | refine js_r ?_)
    refine ret_of (t := 8) rfl hM31 rfl ?_
    have hN : (nodeB fa && nodeB fb) = false := by rw [HNA.out]; rfl
    unfold putC putS
    rw [if_neg (by rw [hN]; decide), if_neg (by rw [hN]; exact fun h => absurd h.1 (by decide))]
    exact ⟨rfl, rn_same HJ.out HL.out (by omega) HB2.out⟩
  case true =>
    cases hnb : nodeB fb
    case false =>
      have HNA := hide hna
      have HNB := hide hnb
      refine region_then fun K32 QK32 hK32 => ?_
      refine s_val hM6 (.inl rfl) rfl rfl (ev_move (.inl rfl) rfl) (fun a34 hM33 => ?_)
      clear hM6
      refine s_call hM33 (.inl rfl) rfl rfl (f := 78) (args := #[.int .i64 fa]) (ev_call hM33 rfl rfl rfl (fun w => by simp [go_sem]) _) (rf_nodeR _ _ HNA) (fun e w35 hp => ?_)
      obtain ⟨rfl, rfl⟩ := hp
      refine ⟨_, rfl, fun a38 hM37 => ?_⟩
      clear hM33
      refine s_val hM37 (.inl rfl) rfl rfl (ev_not rfl rfl rfl) (fun a40 hM39 => ?_)
      clear hM37
      refine s_val hM39 (.inl rfl) rfl rfl (ev_move (.inl rfl) rfl) (fun a42 hM41 => ?_)
      clear hM39
      refine s_val hM41 (.inr ⟨_, _, _, rfl, rfl, rfl⟩) rfl rfl (ev_move (.inl rfl) rfl) (fun a44 hM43 => ?_)
      clear hM41
      refine s_call hM43 (.inr ⟨_, _, _, rfl, rfl, rfl⟩) rfl rfl (f := 78) (args := #[.int .i64 fb]) (ev_call hM43 rfl rfl rfl (fun w => by simp [go_sem]) _) (rf_nodeR _ _ HNB) (fun e w45 hp => ?_)
      obtain ⟨rfl, rfl⟩ := hp
      refine ⟨_, rfl, fun a48 hM47 => ?_⟩
      clear hM43
      refine s_val hM47 (.inr ⟨_, _, _, rfl, rfl, rfl⟩) rfl rfl (ev_not rfl rfl rfl) (fun a50 hM49 => ?_)
      clear hM47
      refine s_val hM49 (.inl rfl) rfl rfl (ev_pick rfl rfl rfl) (fun a52 hM51 => ?_)
      clear hM49
      refine seg_nil (hK32 _ _ ?_)
      clear hK32 K32 QK32
      have hM53 := hM51.cut5 (t1 := 0) (t2 := 1) (t3 := 2) (t4 := 3) (t5 := 17) rfl rfl rfl rfl rfl
      clear hM51
      refine wp_cond_true (hM53.ev (t := 17) rfl) ?_
      refine region_then fun K54 QK54 hK54 => ?_
      refine s_val hM53 (.inl rfl) rfl rfl (ev_move (.inr rfl) rfl) (fun a56 hM55 => ?_)
      clear hM53
      refine seg_nil (hK54 _ _ ?_)
      clear hK54 K54 QK54
      have hM57 := hM55.cut1 (t1 := 8) rfl
      clear hM55
      refine wp_ret ?_
      repeat (with_reducible first | refine th_r ?_ | refine inb_r ?_ | refine js_r ?_)
      refine ret_of (t := 8) rfl hM57 rfl ?_
      have hN : (nodeB fa && nodeB fb) = false := by rw [HNA.out, HNB.out]; rfl
      unfold putC putS
      rw [if_neg (by rw [hN]; decide), if_neg (by rw [hN]; exact fun h => absurd h.1 (by decide))]
      exact ⟨rfl, rn_same HJ.out HL.out (by omega) HB2.out⟩
    case true =>
      have HNA := hide hna
      have HNB := hide hnb
      refine region_then fun K58 QK58 hK58 => ?_
      refine s_val hM6 (.inl rfl) rfl rfl (ev_move (.inl rfl) rfl) (fun a60 hM59 => ?_)
      clear hM6
      refine s_call hM59 (.inl rfl) rfl rfl (f := 78) (args := #[.int .i64 fa]) (ev_call hM59 rfl rfl rfl (fun w => by simp [go_sem]) _) (rf_nodeR _ _ HNA) (fun e w61 hp => ?_)
      obtain ⟨rfl, rfl⟩ := hp
      refine ⟨_, rfl, fun a64 hM63 => ?_⟩
      clear hM59
      refine s_val hM63 (.inl rfl) rfl rfl (ev_not rfl rfl rfl) (fun a66 hM65 => ?_)
      clear hM63
      refine s_val hM65 (.inl rfl) rfl rfl (ev_move (.inl rfl) rfl) (fun a68 hM67 => ?_)
      clear hM65
      refine s_val hM67 (.inr ⟨_, _, _, rfl, rfl, rfl⟩) rfl rfl (ev_move (.inl rfl) rfl) (fun a70 hM69 => ?_)
      clear hM67
      refine s_call hM69 (.inr ⟨_, _, _, rfl, rfl, rfl⟩) rfl rfl (f := 78) (args := #[.int .i64 fb]) (ev_call hM69 rfl rfl rfl (fun w => by simp [go_sem]) _) (rf_nodeR _ _ HNB) (fun e w71 hp => ?_)
      obtain ⟨rfl, rfl⟩ := hp
      refine ⟨_, rfl, fun a74 hM73 => ?_⟩
      clear hM69
      refine s_val hM73 (.inr ⟨_, _, _, rfl, rfl, rfl⟩) rfl rfl (ev_not rfl rfl rfl) (fun a76 hM75 => ?_)
      clear hM73
      refine s_val hM75 (.inl rfl) rfl rfl (ev_pick rfl rfl rfl) (fun a78 hM77 => ?_)
      clear hM75
      refine seg_nil (hK58 _ _ ?_)
      clear hK58 K58 QK58
      have hM79 := hM77.cut5 (t1 := 0) (t2 := 1) (t3 := 2) (t4 := 3) (t5 := 17) rfl rfl rfl rfl rfl
      clear hM77
      refine wp_cond_false (hM79.ev (t := 17) rfl) ?_
      refine wp_skip ?_
      refine hK7 _ _ ?_
      rcases way_cases ws fa fb with hn | ⟨i0, x0, hf0⟩
      ·
        have HW : Hid (IsWay ws fa fb (-1)) := .inl ⟨rfl, hn⟩
        refine region_then fun K80 QK80 hK80 => ?_
        refine s_val hM79 (.inl rfl) rfl rfl (ev_move (.inl rfl) rfl) (fun a82 hM81 => ?_)
        clear hM79
        refine s_val hM81 (.inl rfl) rfl rfl (ev_move (.inl rfl) rfl) (fun a84 hM83 => ?_)
        clear hM81
        refine s_val hM83 (.inl rfl) rfl rfl (ev_move (.inl rfl) rfl) (fun a86 hM85 => ?_)
        clear hM83
        refine s_call hM85 (.inl rfl) rfl rfl (f := 76) (args := #[.pointer (some ⟨r, 0, none⟩), .int .i64 fa, .int .i64 fb]) (ev_call hM85 rfl rfl rfl (fun w => by simp [go_sem]) _) (rf_way fa fb (HJ.out.below HB2.out) HW.out) (fun e w87 hp => ?_)
        obtain ⟨rfl, rfl⟩ := hp
        refine ⟨_, rfl, fun a90 hM89 => ?_⟩
        clear hM85
        refine s_val hM89 (.inl rfl) rfl rfl (ev_move (.inr rfl) rfl) (fun a92 hM91 => ?_)
        clear hM89
        refine seg_nil (hK80 _ _ ?_)
        clear hK80 K80 QK80
        have hM93 := hM91.cut5 (t1 := 0) (t2 := 1) (t3 := 2) (t4 := 3) (t5 := 9) rfl rfl rfl rfl rfl
        clear hM91
        refine wp_seq_k fun K94 hK94 => ?_
        refine region_then fun K95 QK95 hK95 => ?_
        refine s_val hM93 (.inl rfl) rfl rfl (ev_move (.inl rfl) rfl) (fun a97 hM96 => ?_)
        clear hM93
        refine s_val hM96 (.inl rfl) rfl rfl (ev_bin rfl rfl rfl g_int (b_lss (b := true) (by decide))) (fun a99 hM98 => ?_)
        clear hM96
        refine seg_nil (hK95 _ _ ?_)
        clear hK95 K95 QK95
        have hM100 := hM98.cut6 (t1 := 0) (t2 := 1) (t3 := 2) (t4 := 3) (t5 := 9) (t6 := 23) rfl rfl rfl rfl rfl rfl
        clear hM98
        refine wp_cond_true (hM100.ev (t := 23) rfl) ?_
        obtain ⟨CW, HCW⟩ : ∃ Z : Array Value, Hid (Z = rwA ⟨fa, fb, nilV, []⟩) := ⟨_, rfl⟩
        refine region_then fun K101 QK101 hK101 => ?_
        refine s_val hM100 (.inl rfl) rfl rfl (ev_move (.inl rfl) rfl) (fun a103 hM102 => ?_)
        clear hM100
        refine s_val hM102 (.inl rfl) rfl rfl (ev_move (.inl rfl) rfl) (fun a105 hM104 => ?_)
        clear hM102
        refine s_val hM104 (.inl rfl) rfl rfl (ev_nilc rfl rfl) (fun a107 hM106 => ?_)
        clear hM104
        refine s_val hM106 (.inl rfl) rfl rfl (ev_fldw (m := 0) rfl rfl (fun w => by simp [go_sem])) (fun a109 hM108 => ?_)
        clear hM106
        refine s_val hM108 (.inl rfl) rfl rfl (ev_load1 (v := .slice A (ws.length) c) rfl rfl ((HK.out.below HB2.out).at_ (m := 0) rfl) (isAgg_no Try.underlying76 rfl)) (fun a111 hM110 => ?_)
        clear hM108
        refine s_val hM110 (.inl rfl) rfl rfl (ev_move (.inl rfl) rfl) (fun a113 hM112 => ?_)
        clear hM110
        refine s_val hM112 (.inl rfl) rfl rfl (ev_move (.inl rfl) rfl) (fun a115 hM114 => ?_)
        clear hM112
        refine s_val hM114 (.inl rfl) rfl rfl (ev_build2 (v := .agg CW) rfl rfl rfl (fun w => by rw [HCW.out]; kernel_rfl)) (fun a117 hM116 => ?_)
        clear hM114
        refine s_alloc (e := 120) hM116 (.inl rfl) rfl rfl (V := fun g => .slice (some ⟨g, 0, none⟩) 1 1) (ev_bsg (C := CW) hM116 rfl rfl (fun w => by rw [HCW.out]; kernel_rfl)) (fun g118 a124 w119 hM123 KB122_ hb120 hg121 => ?_)
        have KB122 := hide KB122_
        clear hM116 KB122_
        clear hg121
        have HB125 := hide (below_then HB2.out hb120)
        clear hb120 HB2
        have HB127 : Hid (Below w119.heap.size w119 w119) := Below.refl _ _
        obtain ⟨i0, hi0, hz0, hz1, hz2⟩ := info_parts info_rw
        have hj5 := (HJ.out.below HB125.out)
        have hk5 := (KB122.out.on HB127.out)
        rw [HCW.out] at hk5
        refine s_append hM123 (.inl rfl) rfl rfl rfl 0 120 i0 _ 3 40 Try.underlying76 hi0 hz0 hz1 hz2 rfl (by decide) ws.length (rwsC ws) rfl hj5.own ⟨g118, 0, none⟩ 1 1 (rwC ⟨fa, fb, nilV, []⟩) rfl rfl (news_rw (D := rwA ⟨fa, fb, nilV, []⟩) hk5) one_rw (by unfold maxLen; omega) (by omega) (Nat.zero_le _) (fun V2 a129 w130 hM128 ho5 hgr hat => ?_)
        obtain ⟨A5, c5, rfl⟩ := own_slice ho5
        have HB5 := hide HB125.out
        clear hM123
        refine s_val hM128 (.inl rfl) rfl rfl (ev_nilc rfl rfl) (fun a132 hM131 => ?_)
        clear hM128
        refine s_val hM131 (.inl rfl) rfl rfl (ev_fldw (m := 0) rfl rfl (fun w => by simp [go_sem])) (fun a134 hM133 => ?_)
        clear hM131
        have kr := hj5.k.grown hgr (Ne.symm (own_blk_ne hj5.own hj5.k (by decide)))
        refine s_put (v := .slice A5 (ws.length + 1) c5) hM133 rfl rfl rfl rfl rfl kr (by show 0 < 1; omega) (st_slice Try.underlying76 (by kernel_rfl)) (fun w135 kd hg => ?_)
        have HM : Hid (PutM F w w135 r fa fb S k (.slice A ws.length c) (fun j l => l.length = j + 1)) := putM_new HJ.out HL.out hn hk HB5.out ho5 hgr hat kd hg
        clear HJ HK HCW hj5 hk5 ho5 hgr hat kr kd hg HB5 i0 hi0 hz0 hz1 hz2 HB125 HB127 KB122
        refine seg_nil (hK101 _ _ ?_)
        clear hK101 K101 QK101
        have hM136 := hM133.cut4 (t1 := 0) (t2 := 1) (t3 := 2) (t4 := 3) rfl rfl rfl rfl
        clear hM133
        obtain ⟨F1, A1, c1, ws1, i, x, hj1, hl1, hf, hk1, hF1, hc1, hc2, hix⟩ := HM.out
        have HSW := hide (HS.out.chg hc2 hsep)
        clear hc2
        have HJ1 := hide hj1
        have HK1 := hide hj1.k.rng
        obtain ⟨A_, c_, e_, hcap1, hmax1⟩ := own_slice_cap hj1.own
        injection e_ with e1_ _ e2_
        subst e1_; subst e2_
        unfold maxLen at hmax1
        obtain ⟨g, cg, cur, eg, _, hrg, _, hcur, hcsz, hset⟩ := hj1.at_ hf.at_
        have hAx : A1 = some ⟨g, 0, none⟩ := by injection eg
        have HRx := hide hrg
        obtain ⟨Ax, cx, hxv, _, _, _⟩ := hj1.vrow (mem_of_at hf.at_)
        have hlt1 := (List.getElem?_eq_some_iff.1 hf.at_).1
        have hSl := (hl1 fa fb).2 i x hf
        have hSn : (S (fa, fb)).length = x.es.length := by rw [hSl, List.length_map]
        have hcx := hj1.cnt x (mem_of_at hf.at_)
        clear HM hrg eg hj1
        have HB138 : Hid (Below w135.heap.size w135 w135) := Below.refl _ _
        refine region_last fun K139 QK139 hK139 => ?_
        refine s_val hM136 (.inl rfl) rfl rfl (ev_move (.inl rfl) rfl) (fun a141 hM140 => ?_)
        clear hM136
        refine s_val hM140 (.inl rfl) rfl rfl (ev_nilc rfl rfl) (fun a143 hM142 => ?_)
        clear hM140
        refine s_val hM142 (.inl rfl) rfl rfl (ev_fldw (m := 0) rfl rfl (fun w => by simp [go_sem])) (fun a145 hM144 => ?_)
        clear hM142
        refine s_val hM144 (.inl rfl) rfl rfl (ev_load1 (v := .slice A1 (ws1.length) c1) rfl rfl ((HK1.out.below HB138.out).at_ (m := 0) rfl) (isAgg_no Try.underlying76 rfl)) (fun a147 hM146 => ?_)
        clear hM144
        refine s_val hM146 (.inl rfl) rfl rfl (ev_len rfl rfl Try.underlying76) (fun a149 hM148 => ?_)
        clear hM146
        refine s_val hM148 (.inl rfl) rfl rfl (ev_bin rfl rfl rfl g_int (b_sub (r := (i : Int)) (by omega) (by omega))) (fun a151 hM150 => ?_)
        clear hM148
        refine s_val hM150 (.inl rfl) rfl rfl (ev_move (.inr rfl) rfl) (fun a153 hM152 => ?_)
        clear hM150
        refine seg_nil (hK139 _ _ ?_)
        clear hK139 K139 QK139
        have hM154 := hM152.cut5 (t1 := 0) (t2 := 1) (t3 := 2) (t4 := 3) (t5 := 9) rfl rfl rfl rfl rfl
        clear hM152
        refine hK94 _ _ ?_
        refine wp_seq_k fun K155 hK155 => ?_
        by_cases hfull : x.es.length < 1024
        case pos =>
          refine region_then fun K156 QK156 hK156 => ?_
          refine s_val hM154 (.inl rfl) rfl rfl (ev_move (.inl rfl) rfl) (fun a158 hM157 => ?_)
          clear hM154
          refine s_val hM157 (.inl rfl) rfl rfl (ev_nilc rfl rfl) (fun a160 hM159 => ?_)
          clear hM157
          refine s_val hM159 (.inl rfl) rfl rfl (ev_fldw (m := 0) rfl rfl (fun w => by simp [go_sem])) (fun a162 hM161 => ?_)
          clear hM159
          refine s_val hM161 (.inl rfl) rfl rfl (ev_load1 (v := .slice A1 (ws1.length) c1) rfl rfl ((HK1.out.below HB138.out).at_ (m := 0) rfl) (isAgg_no Try.underlying76 rfl)) (fun a164 hM163 => ?_)
          clear hM161
          refine s_val hM163 (.inl rfl) rfl rfl (ev_move (.inl rfl) rfl) (fun a166 hM165 => ?_)
          clear hM163
          refine s_val hM165 (.inl rfl) rfl rfl (ev_idx (b := g) (off := 0) (k := i) (sz := 3) (p := i * 3) rfl (by rw [← hAx]; rfl) rfl Try.underlying76 (by kernel_rfl) (by omega) (by omega)) (fun a168 hM167 => ?_)
          clear hM165
          refine s_val hM167 (.inl rfl) rfl rfl (ev_fldw (m := i * 3 + 2) rfl rfl (fun w => by simp [go_sem])) (fun a170 hM169 => ?_)
          clear hM167
          refine s_val hM169 (.inl rfl) rfl rfl (ev_load1 (v := .slice Ax x.es.length cx) rfl rfl (by rw [← hxv]; exact ((HRx.out.below HB138.out)).at_ (m := 2) rfl) (isAgg_no Try.underlying57 rfl)) (fun a172 hM171 => ?_)
          clear hM169
          refine s_val hM171 (.inl rfl) rfl rfl (ev_len rfl rfl Try.underlying57) (fun a174 hM173 => ?_)
          clear hM171
          refine s_val hM173 (.inl rfl) rfl rfl (ev_bin rfl rfl rfl g_int (b_geq (b := false) (by rw [decide_eq_false_iff_not]; omega))) (fun a176 hM175 => ?_)
          clear hM173
          refine seg_nil (hK156 _ _ ?_)
          clear hK156 K156 QK156
          have hM177 := hM175.cut6 (t1 := 0) (t2 := 1) (t3 := 2) (t4 := 3) (t5 := 9) (t6 := 51) rfl rfl rfl rfl rfl rfl
          clear hM175
          refine wp_cond_false (hM177.ev (t := 51) rfl) ?_
          refine wp_skip ?_
          refine hK155 _ _ ?_
          have hb9 := hide HB138.out
          refine z_open 20 19 rfl (by kernel_rfl) (fun w' => Chg (fun b => x.V.ownBlock = some b) w135 w') fun K180 w178 hb179 hK180 => ?_
          have hb9_ := below_then hb9.out hb179
          have hS : Chg (fun b => x.V.ownBlock = some b) w135 w178 := Chg.of_below hb9_
          have hJ9 := HJ1.out.below hb9_
          have eg9 : Value.slice A1 ws1.length c1 = .slice (some ⟨g, 0, none⟩) ws1.length c1 := by rw [hAx]
          refine z_val 0 rfl rfl (by kernel_rfl) (by kernel_rfl) (by kernel_rfl) (by kernel_rfl) (by kernel_rfl) hM177 (.inl rfl) rfl rfl hS (fun w' hr => (ev_move (.inl rfl) rfl)) (fun a182 hM181 => ?_)
          clear hM177
          refine z_val 1 rfl rfl (by kernel_rfl) (by kernel_rfl) (by kernel_rfl) (by kernel_rfl) (by kernel_rfl) hM181 (.inl rfl) rfl rfl hS (fun w' hr => (ev_nilc rfl rfl)) (fun a184 hM183 => ?_)
          clear hM181
          refine z_val 2 rfl rfl (by kernel_rfl) (by kernel_rfl) (by kernel_rfl) (by kernel_rfl) (by kernel_rfl) hM183 (.inl rfl) rfl rfl hS (fun w' hr => (ev_fldw (m := 0) rfl rfl (fun w => by simp [go_sem]))) (fun a186 hM185 => ?_)
          clear hM183
          refine z_val 3 rfl rfl (by kernel_rfl) (by kernel_rfl) (by kernel_rfl) (by kernel_rfl) (by kernel_rfl) hM185 (.inl rfl) rfl rfl hS (fun w' hr => (ev_load1 (v := .slice A1 ws1.length c1) rfl rfl ((HJ1.out.rd hf.at_ eg9 HRx.out hr).1.at_ (m := 0) rfl) (isAgg_no Try.underlying76 rfl))) (fun a188 hM187 => ?_)
          clear hM185
          refine z_val 4 rfl rfl (by kernel_rfl) (by kernel_rfl) (by kernel_rfl) (by kernel_rfl) (by kernel_rfl) hM187 (.inl rfl) rfl rfl hS (fun w' hr => (ev_move (.inl rfl) rfl)) (fun a190 hM189 => ?_)
          clear hM187
          refine z_val 5 rfl rfl (by kernel_rfl) (by kernel_rfl) (by kernel_rfl) (by kernel_rfl) (by kernel_rfl) hM189 (.inl rfl) rfl rfl hS (fun w' hr => (ev_move (.inl rfl) rfl)) (fun a192 hM191 => ?_)
          clear hM189
          refine z_val 6 rfl rfl (by kernel_rfl) (by kernel_rfl) (by kernel_rfl) (by kernel_rfl) (by kernel_rfl) hM191 (.inl rfl) rfl rfl hS (fun w' hr => (ev_nilc rfl rfl)) (fun a194 hM193 => ?_)
          clear hM191
          refine z_val 7 rfl rfl (by kernel_rfl) (by kernel_rfl) (by kernel_rfl) (by kernel_rfl) (by kernel_rfl) hM193 (.inl rfl) rfl rfl hS (fun w' hr => (ev_fldw (m := 0) rfl rfl (fun w => by simp [go_sem]))) (fun a196 hM195 => ?_)
          clear hM193
          refine z_val 8 rfl rfl (by kernel_rfl) (by kernel_rfl) (by kernel_rfl) (by kernel_rfl) (by kernel_rfl) hM195 (.inl rfl) rfl rfl hS (fun w' hr => (ev_load1 (v := .slice A1 ws1.length c1) rfl rfl ((HJ1.out.rd hf.at_ eg9 HRx.out hr).1.at_ (m := 0) rfl) (isAgg_no Try.underlying76 rfl))) (fun a198 hM197 => ?_)
          clear hM195
          refine z_val 9 rfl rfl (by kernel_rfl) (by kernel_rfl) (by kernel_rfl) (by kernel_rfl) (by kernel_rfl) hM197 (.inl rfl) rfl rfl hS (fun w' hr => (ev_move (.inl rfl) rfl)) (fun a200 hM199 => ?_)
          clear hM197
          refine z_val 10 rfl rfl (by kernel_rfl) (by kernel_rfl) (by kernel_rfl) (by kernel_rfl) (by kernel_rfl) hM199 (.inl rfl) rfl rfl hS (fun w' hr => (ev_idx (b := g) (off := 0) (k := i) (sz := 3) (p := i * 3) rfl (by rw [← hAx]; rfl) rfl Try.underlying76 (by kernel_rfl) (by omega) (by omega))) (fun a202 hM201 => ?_)
          clear hM199
          refine z_val 11 rfl rfl (by kernel_rfl) (by kernel_rfl) (by kernel_rfl) (by kernel_rfl) (by kernel_rfl) hM201 (.inl rfl) rfl rfl hS (fun w' hr => (ev_fldw (m := i * 3 + 2) rfl rfl (fun w => by simp [go_sem]))) (fun a204 hM203 => ?_)
          clear hM201
          refine z_val 12 rfl rfl (by kernel_rfl) (by kernel_rfl) (by kernel_rfl) (by kernel_rfl) (by kernel_rfl) hM203 (.inl rfl) rfl rfl hS (fun w' hr => (ev_load1 (v := .slice Ax x.es.length cx) rfl rfl (by rw [← hxv]; exact (HJ1.out.rd hf.at_ eg9 HRx.out hr).2.at_ (m := 2) rfl) (isAgg_no Try.underlying57 rfl))) (fun a206 hM205 => ?_)
          clear hM203
          refine z_val 13 rfl rfl (by kernel_rfl) (by kernel_rfl) (by kernel_rfl) (by kernel_rfl) (by kernel_rfl) hM205 (.inl rfl) rfl rfl hS (fun w' hr => (ev_move (.inl rfl) rfl)) (fun a208 hM207 => ?_)
          clear hM205
          have s9 := (HSW.out.below hb9.out).below hb179
          refine z_only 14 (by kernel_rfl) (n_call (d := 66) (f := 31) (args := #[.slice A3 n3 c3]) rfl hM207 (.inl rfl) rfl (ev_call hM207 rfl rfl rfl (fun w => by simp [go_sem]) _) (ref0_CopyBytes A3 n3 c3 y _ s9 (by omega) (by omega)) (fun e w2 hp => ?_))
          obtain ⟨u, rfl, ou, hb2⟩ := hp
          obtain ⟨Au, cu, rfl⟩ := own_slice ou
          have hS2 := hS.then_below hb2
          refine ⟨_, rfl, .inr hS2, ?_⟩
          have hM14 := hM207.put (d := 66) (by decide) (.slice Au n3 cu)
          refine z_alloc (e := 28) 15 rfl (by kernel_rfl) hM14 (.inl rfl) rfl rfl (V := fun g => .slice (some ⟨g, 0, none⟩) 1 1) (ev_bsg (C := #[.slice Au n3 cu]) hM14 rfl rfl (fun w => by kernel_rfl)) (fun gs a15 w3 hM15 ks hb3 hgs => ?_)
          have hS3 := hS2.then_below hb3
          refine ⟨hS3, ?_⟩
          obtain ⟨j0, hj0, hz0, hz1, hz2⟩ := info_parts info_bs
          have hb13 := below_then hb2 hb3
          have oV := own_later (hJ9.row x (mem_of_at hf.at_)) hb13
          rw [hxv] at oV
          refine z_append 16 rfl (by kernel_rfl) hM15 (.inl rfl) rfl rfl rfl 0 28 j0 _ 1 24 Try.underlying57 hj0 hz0 hz1 hz2 rfl (by decide) x.es.length (x.es.map (·.1)) rfl oV ⟨gs, 0, none⟩ 1 1 [.slice Au n3 cu] rfl rfl (one_news ks) (one_own ou) (by unfold maxLen; omega) (by omega) (Nat.zero_le _) (fun V2 a16 w4 hM16 o4 hg4 hat => ?_)
          have hS4 := hS3.then_grown hg4 (fun b e => .inl (by rw [hxv]; exact e))
          refine ⟨hS4, ?_⟩
          obtain ⟨A2, c2, rfl⟩ := own_slice o4
          have kg4 := hcur.chg hS4 (fun e => own_two_ne HJ1.out.own (HJ1.out.row x (mem_of_at hf.at_)) (by decide) (by rw [hAx]; rfl) e)
          refine z_val 17 rfl rfl (by kernel_rfl) (by kernel_rfl) (by kernel_rfl) (by kernel_rfl) (by kernel_rfl) hM16 (.inl rfl) rfl rfl hS4 (fun w' hr => (ev_idx (b := g) (off := 0) (k := i) (sz := 3) (p := i * 3) rfl (by rw [← hAx]; rfl) rfl Try.underlying76 (by kernel_rfl) (by omega) (by omega))) (fun a17 hM17 => ?_)
          refine z_val 18 rfl rfl (by kernel_rfl) (by kernel_rfl) (by kernel_rfl) (by kernel_rfl) (by kernel_rfl) hM17 (.inl rfl) rfl rfl hS4 (fun w' hr => (ev_fldw (m := i * 3 + 2) rfl rfl (fun w => by simp [go_sem]))) (fun a18 hM18 => ?_)
          refine z_put (v := .slice A2 (x.es.length + 1) c2) rfl (by kernel_rfl) hM18 rfl rfl rfl rfl rfl kg4 hcsz (st_slice Try.underlying57 (by kernel_rfl)) (by kernel_rfl) (fun w5 kb5 hg5 => ?_)
          rw [← hxv] at hg4 hat
          have HR := hide (rf_put_end hJ9 hl1 hf hk1 hF1 (hc1.then_below hb9_) eg9 hb2 ou hx hfull hb3 o4 hg4 hat hg5 (fun es => hset w5 (.slice A2 (x.es.length + 1) c2) es kb5))
          refine hK180 _ _ ?_
          have hMz := hM18.cut0
          clear hM18 hM17 hM16 hM15 hM14 hM207 hS hS2 hS3 hS4
          have HB210 : Hid (Below w5.heap.size w5 w5) := Below.refl _ _
          refine region_then fun K211 QK211 hK211 => ?_
          refine s_val hMz (.inl rfl) rfl rfl (ev_move (.inr rfl) rfl) (fun a213 hM212 => ?_)
          clear hMz
          refine seg_nil (hK211 _ _ ?_)
          clear hK211 K211 QK211
          have hM214 := hM212.cut1 (t1 := 8) rfl
          clear hM212
          refine wp_ret ?_
          repeat (with_reducible first | refine th_r ?_ | refine inb_r ?_ | refine js_r ?_)
          refine ret_of (t := 8) rfl hM214 rfl ?_
          have hN : (nodeB fa && nodeB fb) = true := by rw [HNA.out, HNB.out]; rfl
          unfold putC putS
          rw [if_pos hN, if_pos (by omega), if_pos ⟨hN, by omega⟩]
          exact ⟨rfl, HR.out⟩
        case neg =>
          refine region_then fun K215 QK215 hK215 => ?_
          refine s_val hM154 (.inl rfl) rfl rfl (ev_move (.inl rfl) rfl) (fun a217 hM216 => ?_)
          clear hM154
          refine s_val hM216 (.inl rfl) rfl rfl (ev_nilc rfl rfl) (fun a219 hM218 => ?_)
          clear hM216
          refine s_val hM218 (.inl rfl) rfl rfl (ev_fldw (m := 0) rfl rfl (fun w => by simp [go_sem])) (fun a221 hM220 => ?_)
          clear hM218
          refine s_val hM220 (.inl rfl) rfl rfl (ev_load1 (v := .slice A1 (ws1.length) c1) rfl rfl ((HK1.out.below HB138.out).at_ (m := 0) rfl) (isAgg_no Try.underlying76 rfl)) (fun a223 hM222 => ?_)
          clear hM220
          refine s_val hM222 (.inl rfl) rfl rfl (ev_move (.inl rfl) rfl) (fun a225 hM224 => ?_)
          clear hM222
          refine s_val hM224 (.inl rfl) rfl rfl (ev_idx (b := g) (off := 0) (k := i) (sz := 3) (p := i * 3) rfl (by rw [← hAx]; rfl) rfl Try.underlying76 (by kernel_rfl) (by omega) (by omega)) (fun a227 hM226 => ?_)
          clear hM224
          refine s_val hM226 (.inl rfl) rfl rfl (ev_fldw (m := i * 3 + 2) rfl rfl (fun w => by simp [go_sem])) (fun a229 hM228 => ?_)
          clear hM226
          refine s_val hM228 (.inl rfl) rfl rfl (ev_load1 (v := .slice Ax x.es.length cx) rfl rfl (by rw [← hxv]; exact ((HRx.out.below HB138.out)).at_ (m := 2) rfl) (isAgg_no Try.underlying57 rfl)) (fun a231 hM230 => ?_)
          clear hM228
          refine s_val hM230 (.inl rfl) rfl rfl (ev_len rfl rfl Try.underlying57) (fun a233 hM232 => ?_)
          clear hM230
          refine s_val hM232 (.inl rfl) rfl rfl (ev_bin rfl rfl rfl g_int (b_geq (b := true) (by rw [decide_eq_true_eq]; omega))) (fun a235 hM234 => ?_)
          clear hM232
          refine seg_nil (hK215 _ _ ?_)
          clear hK215 K215 QK215
          have hM236 := hM234.cut6 (t1 := 0) (t2 := 1) (t3 := 2) (t4 := 3) (t5 := 9) (t6 := 51) rfl rfl rfl rfl rfl rfl
          clear hM234
          refine wp_cond_true (hM236.ev (t := 51) rfl) ?_
          refine region_then fun K237 QK237 hK237 => ?_
          refine s_val hM236 (.inl rfl) rfl rfl (ev_move (.inr rfl) rfl) (fun a239 hM238 => ?_)
          clear hM236
          refine seg_nil (hK237 _ _ ?_)
          clear hK237 K237 QK237
          have hM240 := hM238.cut1 (t1 := 8) rfl
          clear hM238
          refine wp_ret ?_
          repeat (with_reducible first | refine th_r ?_ | refine inb_r ?_ | refine js_r ?_)
          refine ret_of (t := 8) rfl hM240 rfl ?_
          have hN : (nodeB fa && nodeB fb) = true := by rw [HNA.out, HNB.out]; rfl
          unfold putC putS
          rw [if_pos hN, if_neg (by omega), if_neg (fun h => by have := h.2; omega)]
          exact ⟨rfl, F1, _, ws1, (HJ1.out.below HB138.out), hl1, hk1, hF1, hc1.then_below HB138.out⟩
      ·
        have HW : Hid (IsWay ws fa fb (i0 : Int)) := .inr ⟨i0, x0, rfl, hf0⟩
        refine region_then fun K241 QK241 hK241 => ?_
        refine s_val hM79 (.inl rfl) rfl rfl (ev_move (.inl rfl) rfl) (fun a243 hM242 => ?_)
        clear hM79
        refine s_val hM242 (.inl rfl) rfl rfl (ev_move (.inl rfl) rfl) (fun a245 hM244 => ?_)
        clear hM242
        refine s_val hM244 (.inl rfl) rfl rfl (ev_move (.inl rfl) rfl) (fun a247 hM246 => ?_)
        clear hM244
        refine s_call hM246 (.inl rfl) rfl rfl (f := 76) (args := #[.pointer (some ⟨r, 0, none⟩), .int .i64 fa, .int .i64 fb]) (ev_call hM246 rfl rfl rfl (fun w => by simp [go_sem]) _) (rf_way fa fb (HJ.out.below HB2.out) HW.out) (fun e w248 hp => ?_)
        obtain ⟨rfl, rfl⟩ := hp
        refine ⟨_, rfl, fun a251 hM250 => ?_⟩
        clear hM246
        refine s_val hM250 (.inl rfl) rfl rfl (ev_move (.inr rfl) rfl) (fun a253 hM252 => ?_)
        clear hM250
        refine seg_nil (hK241 _ _ ?_)
        clear hK241 K241 QK241
        have hM254 := hM252.cut5 (t1 := 0) (t2 := 1) (t3 := 2) (t4 := 3) (t5 := 9) rfl rfl rfl rfl rfl
        clear hM252
        refine wp_seq_k fun K255 hK255 => ?_
        refine region_then fun K256 QK256 hK256 => ?_
        refine s_val hM254 (.inl rfl) rfl rfl (ev_move (.inl rfl) rfl) (fun a258 hM257 => ?_)
        clear hM254
        refine s_val hM257 (.inl rfl) rfl rfl (ev_bin rfl rfl rfl g_int (b_lss (b := false) (by rw [decide_eq_false_iff_not]; omega))) (fun a260 hM259 => ?_)
        clear hM257
        refine seg_nil (hK256 _ _ ?_)
        clear hK256 K256 QK256
        have hM261 := hM259.cut6 (t1 := 0) (t2 := 1) (t3 := 2) (t4 := 3) (t5 := 9) (t6 := 23) rfl rfl rfl rfl rfl rfl
        clear hM259
        refine wp_cond_false (hM261.ev (t := 23) rfl) ?_
        refine wp_skip ?_
        refine hK255 _ _ ?_
        refine wp_seq_k fun K262 hK262 => ?_
        have HM : Hid (PutM F w w r fa fb S k (.slice A ws.length c) (fun j _ => j = i0)) := putM_old HJ.out HL.out hf0 (by omega) HB2.out
        obtain ⟨F1, A1, c1, ws1, i, x, hj1, hl1, hf, hk1, hF1, hc1, hc2, hix⟩ := HM.out
        have HSW := hide (HS.out.chg hc2 hsep)
        clear hc2
        have HJ1 := hide hj1
        have HK1 := hide hj1.k.rng
        obtain ⟨A_, c_, e_, hcap1, hmax1⟩ := own_slice_cap hj1.own
        injection e_ with e1_ _ e2_
        subst e1_; subst e2_
        unfold maxLen at hmax1
        obtain ⟨g, cg, cur, eg, _, hrg, _, hcur, hcsz, hset⟩ := hj1.at_ hf.at_
        have hAx : A1 = some ⟨g, 0, none⟩ := by injection eg
        have HRx := hide hrg
        obtain ⟨Ax, cx, hxv, _, _, _⟩ := hj1.vrow (mem_of_at hf.at_)
        have hlt1 := (List.getElem?_eq_some_iff.1 hf.at_).1
        have hSl := (hl1 fa fb).2 i x hf
        have hSn : (S (fa, fb)).length = x.es.length := by rw [hSl, List.length_map]
        have hcx := hj1.cnt x (mem_of_at hf.at_)
        clear HM hrg eg hj1
        have HB264 : Hid (Below w.heap.size w w) := Below.refl _ _
        obtain rfl : i = i0 := hix
        by_cases hfull : x.es.length < 1024
        case pos =>
          refine region_then fun K265 QK265 hK265 => ?_
          refine s_val hM261 (.inl rfl) rfl rfl (ev_move (.inl rfl) rfl) (fun a267 hM266 => ?_)
          clear hM261
          refine s_val hM266 (.inl rfl) rfl rfl (ev_nilc rfl rfl) (fun a269 hM268 => ?_)
          clear hM266
          refine s_val hM268 (.inl rfl) rfl rfl (ev_fldw (m := 0) rfl rfl (fun w => by simp [go_sem])) (fun a271 hM270 => ?_)
          clear hM268
          refine s_val hM270 (.inl rfl) rfl rfl (ev_load1 (v := .slice A1 (ws1.length) c1) rfl rfl ((HK1.out.below HB264.out).at_ (m := 0) rfl) (isAgg_no Try.underlying76 rfl)) (fun a273 hM272 => ?_)
          clear hM270
          refine s_val hM272 (.inl rfl) rfl rfl (ev_move (.inl rfl) rfl) (fun a275 hM274 => ?_)
          clear hM272
          refine s_val hM274 (.inl rfl) rfl rfl (ev_idx (b := g) (off := 0) (k := i) (sz := 3) (p := i * 3) rfl (by rw [← hAx]; rfl) rfl Try.underlying76 (by kernel_rfl) (by omega) (by omega)) (fun a277 hM276 => ?_)
          clear hM274
          refine s_val hM276 (.inl rfl) rfl rfl (ev_fldw (m := i * 3 + 2) rfl rfl (fun w => by simp [go_sem])) (fun a279 hM278 => ?_)
          clear hM276
          refine s_val hM278 (.inl rfl) rfl rfl (ev_load1 (v := .slice Ax x.es.length cx) rfl rfl (by rw [← hxv]; exact ((HRx.out.below HB264.out)).at_ (m := 2) rfl) (isAgg_no Try.underlying57 rfl)) (fun a281 hM280 => ?_)
          clear hM278
          refine s_val hM280 (.inl rfl) rfl rfl (ev_len rfl rfl Try.underlying57) (fun a283 hM282 => ?_)
          clear hM280
          refine s_val hM282 (.inl rfl) rfl rfl (ev_bin rfl rfl rfl g_int (b_geq (b := false) (by rw [decide_eq_false_iff_not]; omega))) (fun a285 hM284 => ?_)
          clear hM282
          refine seg_nil (hK265 _ _ ?_)
          clear hK265 K265 QK265
          have hM286 := hM284.cut6 (t1 := 0) (t2 := 1) (t3 := 2) (t4 := 3) (t5 := 9) (t6 := 51) rfl rfl rfl rfl rfl rfl
          clear hM284
          refine wp_cond_false (hM286.ev (t := 51) rfl) ?_
          refine wp_skip ?_
          refine hK262 _ _ ?_
          have hb9 := hide HB264.out
          refine z_open 20 19 rfl (by kernel_rfl) (fun w' => Chg (fun b => x.V.ownBlock = some b) w w') fun K289 w287 hb288 hK289 => ?_
          have hb9_ := below_then hb9.out hb288
          have hS : Chg (fun b => x.V.ownBlock = some b) w w287 := Chg.of_below hb9_
          have hJ9 := HJ1.out.below hb9_
          have eg9 : Value.slice A1 ws1.length c1 = .slice (some ⟨g, 0, none⟩) ws1.length c1 := by rw [hAx]
          refine z_val 0 rfl rfl (by kernel_rfl) (by kernel_rfl) (by kernel_rfl) (by kernel_rfl) (by kernel_rfl) hM286 (.inl rfl) rfl rfl hS (fun w' hr => (ev_move (.inl rfl) rfl)) (fun a291 hM290 => ?_)
          clear hM286
          refine z_val 1 rfl rfl (by kernel_rfl) (by kernel_rfl) (by kernel_rfl) (by kernel_rfl) (by kernel_rfl) hM290 (.inl rfl) rfl rfl hS (fun w' hr => (ev_nilc rfl rfl)) (fun a293 hM292 => ?_)
          clear hM290
          refine z_val 2 rfl rfl (by kernel_rfl) (by kernel_rfl) (by kernel_rfl) (by kernel_rfl) (by kernel_rfl) hM292 (.inl rfl) rfl rfl hS (fun w' hr => (ev_fldw (m := 0) rfl rfl (fun w => by simp [go_sem]))) (fun a295 hM294 => ?_)
          clear hM292
          refine z_val 3 rfl rfl (by kernel_rfl) (by kernel_rfl) (by kernel_rfl) (by kernel_rfl) (by kernel_rfl) hM294 (.inl rfl) rfl rfl hS (fun w' hr => (ev_load1 (v := .slice A1 ws1.length c1) rfl rfl ((HJ1.out.rd hf.at_ eg9 HRx.out hr).1.at_ (m := 0) rfl) (isAgg_no Try.underlying76 rfl))) (fun a297 hM296 => ?_)
          clear hM294
          refine z_val 4 rfl rfl (by kernel_rfl) (by kernel_rfl) (by kernel_rfl) (by kernel_rfl) (by kernel_rfl) hM296 (.inl rfl) rfl rfl hS (fun w' hr => (ev_move (.inl rfl) rfl)) (fun a299 hM298 => ?_)
          clear hM296
          refine z_val 5 rfl rfl (by kernel_rfl) (by kernel_rfl) (by kernel_rfl) (by kernel_rfl) (by kernel_rfl) hM298 (.inl rfl) rfl rfl hS (fun w' hr => (ev_move (.inl rfl) rfl)) (fun a301 hM300 => ?_)
          clear hM298
          refine z_val 6 rfl rfl (by kernel_rfl) (by kernel_rfl) (by kernel_rfl) (by kernel_rfl) (by kernel_rfl) hM300 (.inl rfl) rfl rfl hS (fun w' hr => (ev_nilc rfl rfl)) (fun a303 hM302 => ?_)
          clear hM300
          refine z_val 7 rfl rfl (by kernel_rfl) (by kernel_rfl) (by kernel_rfl) (by kernel_rfl) (by kernel_rfl) hM302 (.inl rfl) rfl rfl hS (fun w' hr => (ev_fldw (m := 0) rfl rfl (fun w => by simp [go_sem]))) (fun a305 hM304 => ?_)
          clear hM302
          refine z_val 8 rfl rfl (by kernel_rfl) (by kernel_rfl) (by kernel_rfl) (by kernel_rfl) (by kernel_rfl) hM304 (.inl rfl) rfl rfl hS (fun w' hr => (ev_load1 (v := .slice A1 ws1.length c1) rfl rfl ((HJ1.out.rd hf.at_ eg9 HRx.out hr).1.at_ (m := 0) rfl) (isAgg_no Try.underlying76 rfl))) (fun a307 hM306 => ?_)
          clear hM304
          refine z_val 9 rfl rfl (by kernel_rfl) (by kernel_rfl) (by kernel_rfl) (by kernel_rfl) (by kernel_rfl) hM306 (.inl rfl) rfl rfl hS (fun w' hr => (ev_move (.inl rfl) rfl)) (fun a309 hM308 => ?_)
          clear hM306
          refine z_val 10 rfl rfl (by kernel_rfl) (by kernel_rfl) (by kernel_rfl) (by kernel_rfl) (by kernel_rfl) hM308 (.inl rfl) rfl rfl hS (fun w' hr => (ev_idx (b := g) (off := 0) (k := i) (sz := 3) (p := i * 3) rfl (by rw [← hAx]; rfl) rfl Try.underlying76 (by kernel_rfl) (by omega) (by omega))) (fun a311 hM310 => ?_)
          clear hM308
          refine z_val 11 rfl rfl (by kernel_rfl) (by kernel_rfl) (by kernel_rfl) (by kernel_rfl) (by kernel_rfl) hM310 (.inl rfl) rfl rfl hS (fun w' hr => (ev_fldw (m := i * 3 + 2) rfl rfl (fun w => by simp [go_sem]))) (fun a313 hM312 => ?_)
          clear hM310
          refine z_val 12 rfl rfl (by kernel_rfl) (by kernel_rfl) (by kernel_rfl) (by kernel_rfl) (by kernel_rfl) hM312 (.inl rfl) rfl rfl hS (fun w' hr => (ev_load1 (v := .slice Ax x.es.length cx) rfl rfl (by rw [← hxv]; exact (HJ1.out.rd hf.at_ eg9 HRx.out hr).2.at_ (m := 2) rfl) (isAgg_no Try.underlying57 rfl))) (fun a315 hM314 => ?_)
          clear hM312
          refine z_val 13 rfl rfl (by kernel_rfl) (by kernel_rfl) (by kernel_rfl) (by kernel_rfl) (by kernel_rfl) hM314 (.inl rfl) rfl rfl hS (fun w' hr => (ev_move (.inl rfl) rfl)) (fun a317 hM316 => ?_)
          clear hM314
          have s9 := (HSW.out.below hb9.out).below hb288
          refine z_only 14 (by kernel_rfl) (n_call (d := 66) (f := 31) (args := #[.slice A3 n3 c3]) rfl hM316 (.inl rfl) rfl (ev_call hM316 rfl rfl rfl (fun w => by simp [go_sem]) _) (ref0_CopyBytes A3 n3 c3 y _ s9 (by omega) (by omega)) (fun e w2 hp => ?_))
          obtain ⟨u, rfl, ou, hb2⟩ := hp
          obtain ⟨Au, cu, rfl⟩ := own_slice ou
          have hS2 := hS.then_below hb2
          refine ⟨_, rfl, .inr hS2, ?_⟩
          have hM14 := hM316.put (d := 66) (by decide) (.slice Au n3 cu)
          refine z_alloc (e := 28) 15 rfl (by kernel_rfl) hM14 (.inl rfl) rfl rfl (V := fun g => .slice (some ⟨g, 0, none⟩) 1 1) (ev_bsg (C := #[.slice Au n3 cu]) hM14 rfl rfl (fun w => by kernel_rfl)) (fun gs a15 w3 hM15 ks hb3 hgs => ?_)
          have hS3 := hS2.then_below hb3
          refine ⟨hS3, ?_⟩
          obtain ⟨j0, hj0, hz0, hz1, hz2⟩ := info_parts info_bs
          have hb13 := below_then hb2 hb3
          have oV := own_later (hJ9.row x (mem_of_at hf.at_)) hb13
          rw [hxv] at oV
          refine z_append 16 rfl (by kernel_rfl) hM15 (.inl rfl) rfl rfl rfl 0 28 j0 _ 1 24 Try.underlying57 hj0 hz0 hz1 hz2 rfl (by decide) x.es.length (x.es.map (·.1)) rfl oV ⟨gs, 0, none⟩ 1 1 [.slice Au n3 cu] rfl rfl (one_news ks) (one_own ou) (by unfold maxLen; omega) (by omega) (Nat.zero_le _) (fun V2 a16 w4 hM16 o4 hg4 hat => ?_)
          have hS4 := hS3.then_grown hg4 (fun b e => .inl (by rw [hxv]; exact e))
          refine ⟨hS4, ?_⟩
          obtain ⟨A2, c2, rfl⟩ := own_slice o4
          have kg4 := hcur.chg hS4 (fun e => own_two_ne HJ1.out.own (HJ1.out.row x (mem_of_at hf.at_)) (by decide) (by rw [hAx]; rfl) e)
          refine z_val 17 rfl rfl (by kernel_rfl) (by kernel_rfl) (by kernel_rfl) (by kernel_rfl) (by kernel_rfl) hM16 (.inl rfl) rfl rfl hS4 (fun w' hr => (ev_idx (b := g) (off := 0) (k := i) (sz := 3) (p := i * 3) rfl (by rw [← hAx]; rfl) rfl Try.underlying76 (by kernel_rfl) (by omega) (by omega))) (fun a17 hM17 => ?_)
          refine z_val 18 rfl rfl (by kernel_rfl) (by kernel_rfl) (by kernel_rfl) (by kernel_rfl) (by kernel_rfl) hM17 (.inl rfl) rfl rfl hS4 (fun w' hr => (ev_fldw (m := i * 3 + 2) rfl rfl (fun w => by simp [go_sem]))) (fun a18 hM18 => ?_)
          refine z_put (v := .slice A2 (x.es.length + 1) c2) rfl (by kernel_rfl) hM18 rfl rfl rfl rfl rfl kg4 hcsz (st_slice Try.underlying57 (by kernel_rfl)) (by kernel_rfl) (fun w5 kb5 hg5 => ?_)
          rw [← hxv] at hg4 hat
          have HR := hide (rf_put_end hJ9 hl1 hf hk1 hF1 (hc1.then_below hb9_) eg9 hb2 ou hx hfull hb3 o4 hg4 hat hg5 (fun es => hset w5 (.slice A2 (x.es.length + 1) c2) es kb5))
          refine hK289 _ _ ?_
          have hMz := hM18.cut0
          clear hM18 hM17 hM16 hM15 hM14 hM316 hS hS2 hS3 hS4
          have HB319 : Hid (Below w5.heap.size w5 w5) := Below.refl _ _
          refine region_then fun K320 QK320 hK320 => ?_
          refine s_val hMz (.inl rfl) rfl rfl (ev_move (.inr rfl) rfl) (fun a322 hM321 => ?_)
          clear hMz
          refine seg_nil (hK320 _ _ ?_)
          clear hK320 K320 QK320
          have hM323 := hM321.cut1 (t1 := 8) rfl
          clear hM321
          refine wp_ret ?_
          repeat (with_reducible first | refine th_r ?_ | refine inb_r ?_ | refine js_r ?_)
          refine ret_of (t := 8) rfl hM323 rfl ?_
          have hN : (nodeB fa && nodeB fb) = true := by rw [HNA.out, HNB.out]; rfl
          unfold putC putS
          rw [if_pos hN, if_pos (by omega), if_pos ⟨hN, by omega⟩]
          exact ⟨rfl, HR.out⟩
        case neg =>
          refine region_then fun K324 QK324 hK324 => ?_
          refine s_val hM261 (.inl rfl) rfl rfl (ev_move (.inl rfl) rfl) (fun a326 hM325 => ?_)
          clear hM261
          refine s_val hM325 (.inl rfl) rfl rfl (ev_nilc rfl rfl) (fun a328 hM327 => ?_)
          clear hM325
          refine s_val hM327 (.inl rfl) rfl rfl (ev_fldw (m := 0) rfl rfl (fun w => by simp [go_sem])) (fun a330 hM329 => ?_)
          clear hM327
          refine s_val hM329 (.inl rfl) rfl rfl (ev_load1 (v := .slice A1 (ws1.length) c1) rfl rfl ((HK1.out.below HB264.out).at_ (m := 0) rfl) (isAgg_no Try.underlying76 rfl)) (fun a332 hM331 => ?_)
          clear hM329
          refine s_val hM331 (.inl rfl) rfl rfl (ev_move (.inl rfl) rfl) (fun a334 hM333 => ?_)
          clear hM331
          refine s_val hM333 (.inl rfl) rfl rfl (ev_idx (b := g) (off := 0) (k := i) (sz := 3) (p := i * 3) rfl (by rw [← hAx]; rfl) rfl Try.underlying76 (by kernel_rfl) (by omega) (by omega)) (fun a336 hM335 => ?_)
          clear hM333
          refine s_val hM335 (.inl rfl) rfl rfl (ev_fldw (m := i * 3 + 2) rfl rfl (fun w => by simp [go_sem])) (fun a338 hM337 => ?_)
          clear hM335
          refine s_val hM337 (.inl rfl) rfl rfl (ev_load1 (v := .slice Ax x.es.length cx) rfl rfl (by rw [← hxv]; exact ((HRx.out.below HB264.out)).at_ (m := 2) rfl) (isAgg_no Try.underlying57 rfl)) (fun a340 hM339 => ?_)
          clear hM337
          refine s_val hM339 (.inl rfl) rfl rfl (ev_len rfl rfl Try.underlying57) (fun a342 hM341 => ?_)
          clear hM339
          refine s_val hM341 (.inl rfl) rfl rfl (ev_bin rfl rfl rfl g_int (b_geq (b := true) (by rw [decide_eq_true_eq]; omega))) (fun a344 hM343 => ?_)
          clear hM341
          refine seg_nil (hK324 _ _ ?_)
          clear hK324 K324 QK324
          have hM345 := hM343.cut6 (t1 := 0) (t2 := 1) (t3 := 2) (t4 := 3) (t5 := 9) (t6 := 51) rfl rfl rfl rfl rfl rfl
          clear hM343
          refine wp_cond_true (hM345.ev (t := 51) rfl) ?_
          refine region_then fun K346 QK346 hK346 => ?_
          refine s_val hM345 (.inl rfl) rfl rfl (ev_move (.inr rfl) rfl) (fun a348 hM347 => ?_)
          clear hM345
          refine seg_nil (hK346 _ _ ?_)
          clear hK346 K346 QK346
          have hM349 := hM347.cut1 (t1 := 8) rfl
          clear hM347
          refine wp_ret ?_
          repeat (with_reducible first | refine th_r ?_ | refine inb_r ?_ | refine js_r ?_)
          refine ret_of (t := 8) rfl hM349 rfl ?_
          have hN : (nodeB fa && nodeB fb) = true := by rw [HNA.out, HNB.out]; rfl
          unfold putC putS
          rw [if_pos hN, if_neg (by omega), if_neg (fun h => by have := h.2; omega)]
          exact ⟨rfl, F1, _, ws1, (HJ1.out.below HB264.out), hl1, hk1, hF1, hc1.then_below HB264.out⟩
end Go.Proofs.Ytflamhndmggiaaa
/-
  The reference net's Take; CopyCells.
-/
namespace Go.Proofs.Ytflamhndmggiaaa
open Go.RowKit

def OwnR (w : World) (B : Nat) (e : TypeId) (size : Nat) (v : Value) (n : Nat) (xs : List Value) : Prop := w.ownsRow B e size v n xs
theorem OwnR.below {w w' : World} {B n size : Nat} {e : TypeId} {v : Value} {xs : List Value} (h : OwnR w B e size v n xs) (hb : Below w.heap.size w w') : OwnR w' B e size v n xs := own_later h hb
theorem below_grown_own {W0 w w' : World} {n size : Nat} {e : TypeId} {v : Value} {xs : List Value} (hb : Below W0.heap.size W0 w) (h : w.ownsRow W0.heap.size e size v n xs) (hg : w.grownBy w' v.ownBlock) : Below W0.heap.size W0 w' := hb.grown hg hb.size (fun b hb => (h.lt b hb).1)
/-- Messages, each readable; messages in new memory. -/
def ElS (w : World) (es : List (Value × List UInt8)) : Prop := ∀ p, p ∈ es → ∃ A c, p.1 = .slice A p.2.length c ∧ Sl w 1 A p.2.length (bytes8 p.2) ∧ p.2.length ≤ 1048576
def ElO (w : World) (B : Nat) (es : List (Value × List UInt8)) : Prop := ∀ p, p ∈ es → w.ownsRow B 5 1 p.1 p.2.length (bytes8 p.2)
theorem ElS.below {w w' : World} {es : List (Value × List UInt8)} (h : ElS w es) (hb : Below w.heap.size w w') : ElS w' es := fun p hp => by
  obtain ⟨A, c, e, hs, hl⟩ := h p hp
  exact ⟨A, c, e, hs.below hb, hl⟩
theorem ElO.below {w w' : World} {B : Nat} {es : List (Value × List UInt8)} (h : ElO w B es) (hb : Below w.heap.size w w') : ElO w' B es := fun p hp => own_later (h p hp) hb
theorem ElO.snoc {w : World} {B : Nat} {es : List (Value × List UInt8)} {u : Value} {y : List UInt8} (h : ElO w B es) (ho : w.ownsRow B 5 1 u y.length (bytes8 y)) : ElO w B (es ++ [(u, y)]) := fun p hp => by
  rcases List.mem_append.1 hp with hp | hp
  · exact h p hp
  · obtain rfl : p = (u, y) := by simpa using hp
    exact ho
theorem take_snoc {α : Type} {l : List α} {j : Nat} {x : α} (h : l[j]? = some x) : l.take (j + 1) = l.take j ++ [x] := by
  rw [List.take_add_one, h]; rfl

set_option maxRecDepth 100000 in
set_option maxHeartbeats 4000000 in
theorem ref0_CopyCells {A : Option Addr} {n c : Nat} {es : List (Value × List UInt8)} (w : World) (hs : Sl w 1 A n (es.map (·.1))) (hel : ElS w es) (hn : n ≤ 1024) :
    Calls Try.prog 77 #[.slice A n c] w fun e w' => ∃ v es', e = .returned v ∧ w'.ownsRow w.heap.size 28 1 v n (es'.map (·.1)) ∧ ElO w' w.heap.size es' ∧ es'.map (·.2) = es.map (·.2) ∧ Below w.heap.size w w' := by
  have HS := hide hs
  have HE := hide hel
  have hnl : es.length = n := by have := hs.1; rw [List.length_map] at this; omega
  have HO : Hid (OwnR w w.heap.size 28 1 (.slice none 0 0) 0 (([] : List (Value × List UInt8)).map (·.1))) := World.ownsRow_nil _ _ _ _
  have HQ : Hid (ElO w w.heap.size []) := fun p hp => by simp at hp
  have HT : Hid ((([] : List (Value × List UInt8)).map (·.2)) = (es.take 0).map (·.2)) := rfl
  clear hs hel
  go_enter Try.func77, Try.ntmps77
  refine act_off 20 [(0, .slice A n c)] (Frm.start rfl (by intro p hp; simp only [List.mem_cons, List.not_mem_nil, or_false] at hp; subst hp; rfl)) (fun a0 hM => ?_)
  have HB2 : Hid (Below w.heap.size w w) := Below.refl _ _
  refine region_then fun K3 QK3 hK3 => ?_
  refine s_val hM (.inl rfl) rfl rfl (ev_move (.inr rfl) rfl) (fun a5 hM4 => ?_)
  clear hM
  refine seg_nil (hK3 _ _ ?_)
  clear hK3 K3 QK3
  have hM6 := hM4.cut1 (t1 := 0) rfl
  clear hM4
  refine region_then fun K7 QK7 hK7 => ?_
  refine s_val hM6 (.inl rfl) rfl rfl (ev_move (.inr rfl) rfl) (fun a9 hM8 => ?_)
  clear hM6
  refine seg_nil (hK7 _ _ ?_)
  clear hK7 K7 QK7
  have hM10 := hM8.cut2 (t1 := 0) (t2 := 3) rfl rfl
  clear hM8
  refine wp_seq_k fun K11 hK11 => ?_
  refine region_then fun K12 QK12 hK12 => ?_
  refine s_val hM10 (.inl rfl) rfl rfl (ev_move (.inr rfl) rfl) (fun a14 hM13 => ?_)
  clear hM10
  refine seg_nil (hK12 _ _ ?_)
  clear hK12 K12 QK12
  have hM15 := hM13.cut3 (t1 := 0) (t2 := 3) (t3 := 4) rfl rfl rfl
  clear hM13
  have hM16 := hM15.cut3 (t1 := 4) (t2 := 0) (t3 := 3) rfl rfl rfl
  clear hM15
  refine wp_block ?_
  refine wp_loop_ghost (fun m a w' => ∃ (j : Nat) (A2 : Option Addr) (c2 : Nat) (e2 : List (Value × List UInt8)), m = n - j ∧ Frm a 20 [(4, .int .i64 (j : Int)), (0, .slice A n c), (3, .slice A2 j c2)] ∧ Hid (Below w.heap.size w w') ∧ Hid (OwnR w' w.heap.size 28 1 (.slice A2 j c2) j (e2.map (·.1))) ∧ Hid (ElO w' w.heap.size e2) ∧ Hid (e2.map (·.2) = (es.take j).map (·.2)) ∧ j ≤ n) n ⟨0, none, 0, [],  by omega, hM16, HB2, (hide (HO.out.below HB2.out)), (hide (HQ.out.below HB2.out)), HT, Nat.zero_le _⟩ ?_
  clear HB2 hM16 HO HQ HT
  rintro m21 a18 w17 ⟨j, A2, c2, e2, rfl, hM19, HB20, HO, HQ, HT, hjn⟩
  have HB23 : Hid (Below w17.heap.size w17 w17) := Below.refl _ _
  refine wp_seq_k fun K24 hK24 => ?_
  by_cases hlt : j < n
  case pos =>
    obtain ⟨p, hp⟩ : ∃ p, es[j]? = some p := ⟨_, List.getElem?_eq_getElem (by omega)⟩
    have hs1 := (HS.out.below HB20.out)
    obtain ⟨gx, ox, hAx, hgx, hcl⟩ := hs1.2 (by omega)
    have HRp : Hid (Rng w17 gx (ox + j) #[p.1]) := ⟨hgx, fun q u hq => by
      have hq0 : q = 0 := by have := (Array.getElem?_eq_some_iff.1 hq).1; simpa using this
      subst hq0
      obtain rfl := Option.some.inj hq
      exact hcl j _ (by rw [List.getElem?_map, hp]; rfl)⟩
    obtain ⟨Ap, cp, hpv, hps, hpl⟩ := (HE.out.below HB20.out) p (mem_of_at hp)
    have HSP := hide hps
    clear hs1 hcl hps
    refine region_then fun K25 QK25 hK25 => ?_
    refine s_val hM19 (.inl rfl) rfl rfl (ev_move (.inl rfl) rfl) (fun a27 hM26 => ?_)
    clear hM19
    refine s_val hM26 (.inl rfl) rfl rfl (ev_move (.inl rfl) rfl) (fun a29 hM28 => ?_)
    clear hM26
    refine s_val hM28 (.inl rfl) rfl rfl (ev_len rfl rfl Try.underlying57) (fun a31 hM30 => ?_)
    clear hM28
    refine s_val hM30 (.inl rfl) rfl rfl (ev_bin rfl rfl rfl g_int (b_lss (b := true) (by rw [decide_eq_true_eq]; omega))) (fun a33 hM32 => ?_)
    clear hM30
    refine seg_nil (hK25 _ _ ?_)
    clear hK25 K25 QK25
    have hM34 := hM32.cut4 (t1 := 0) (t2 := 3) (t3 := 4) (t4 := 8) rfl rfl rfl rfl
    clear hM32
    refine wp_cond_true (hM34.ev (t := 8) rfl) ?_
    refine wp_skip ?_
    refine hK24 _ _ ?_
    refine wp_seq_k fun K35 hK35 => ?_
    refine wp_block ?_
    refine region_last fun K36 QK36 hK36 => ?_
    refine s_val hM34 (.inl rfl) rfl rfl (ev_move (.inl rfl) rfl) (fun a38 hM37 => ?_)
    clear hM34
    refine s_val hM37 (.inl rfl) rfl rfl (ev_move (.inl rfl) rfl) (fun a40 hM39 => ?_)
    clear hM37
    refine s_val hM39 (.inl rfl) rfl rfl (ev_move (.inl rfl) rfl) (fun a42 hM41 => ?_)
    clear hM39
    refine s_val hM41 (.inl rfl) rfl rfl (ev_idx (b := gx) (off := ox) (k := j) (sz := 1) (p := ox + j) rfl (by rw [← hAx]; rfl) rfl Try.underlying57 (by kernel_rfl) (by omega) (by omega)) (fun a44 hM43 => ?_)
    clear hM41
    refine s_val hM43 (.inl rfl) rfl rfl (ev_load1 (v := .slice Ap p.2.length cp) rfl rfl (by rw [← hpv]; exact ((HRp.out.below HB23.out)).at_ (m := 0) rfl) (isAgg_no Try.underlying28 rfl)) (fun a46 hM45 => ?_)
    clear hM43
    have hbC := HB20.out
    refine s_call hM45 (.inl rfl) rfl rfl (f := 31) (args := #[.slice Ap (p.2.length) cp]) (ev_call hM45 rfl rfl rfl (fun w => by simp [go_sem]) _) (ref0_CopyBytes Ap p.2.length cp p.2 _ (HSP.out.below HB23.out) (by omega) (by omega)) (fun e w47 hp => ?_)
    obtain ⟨u, rfl, ou, hb48⟩ := hp
    obtain ⟨Au, cu, rfl⟩ := own_slice ou
    have HOU : Hid (OwnR w47 w17.heap.size 5 1 (.slice Au p.2.length cu) p.2.length (bytes8 p.2)) := ou
    clear ou
    refine ⟨_, rfl, fun a50 hM49 => ?_⟩
    clear hM45
    have HB51 := hide (below_then HB20.out hb48)
    have HB52 := hide (below_then HB23.out hb48)
    clear hb48 HB20 HB23
    have HB54 : Hid (Below w47.heap.size w47 w47) := Below.refl _ _
    refine s_alloc (e := 28) hM49 (.inl rfl) rfl rfl (V := fun g => .slice (some ⟨g, 0, none⟩) 1 1) (ev_bsl hM49 rfl rfl (fun w => by kernel_rfl)) (fun g55 a61 w56 hM60 KB59_ hb57 hg58 => ?_)
    have KB59 := hide KB59_
    clear hM49 KB59_
    clear hg58
    have HB62 := hide (below_then HB51.out hb57)
    have HB63 := hide (below_then HB52.out hb57)
    have HB64 := hide (below_then HB54.out hb57)
    clear hb57 HB51 HB52 HB54
    have HB66 : Hid (Below w56.heap.size w56 w56) := Below.refl _ _
    obtain ⟨i0, hi0, hz0, hz1, hz2⟩ := info_parts info_bs
    have hO := (HO.out.below HB63.out)
    have hk := (KB59.out.on HB66.out)
    have hU := (HOU.out.below HB64.out)
    have hQ := (HQ.out.below HB63.out)
    have hbW := HB62.out
    have hbN := HB63.out
    refine s_append hM60 (.inl rfl) rfl rfl rfl w.heap.size 28 i0 _ 1 24 Try.underlying57 hi0 hz0 hz1 hz2 rfl (by decide) j (List.map (fun q : Value × List UInt8 => q.1) e2) rfl hO ⟨g55, 0, none⟩ 1 1 [.slice Au p.2.length cu] rfl rfl (one_news hk) (one_own hU) (by unfold maxLen; omega) (by omega) hbW.size (fun V2 a68 w69 hM67 ho hgr hat => ?_)
    obtain ⟨A3, c3, rfl⟩ := own_slice ho
    have HB70 := hide (below_grown_own hbW hO hgr)
    have hne : ∀ (v : Value) m (xs : List Value) B, w56.ownsRow B 5 1 v m xs → w69.ownsRow B 5 1 v m xs := fun v m xs B o => own_at o (fun b hb => hgr.block b (own_in o hb) (fun e => own_two_ne o hO (by decide) hb e.symm))
    have HO2 : Hid (OwnR w69 w.heap.size 28 1 (.slice A3 (j + 1) c3) (j + 1) ((e2 ++ [(Value.slice Au p.2.length cu, p.2)]).map (·.1))) := by rw [List.map_append]; exact ho
    have HQ2 : Hid (ElO w69 w.heap.size (e2 ++ [(Value.slice Au p.2.length cu, p.2)])) := ElO.snoc (fun q hq => hne _ _ _ _ (hQ q hq)) (hne _ _ _ _ (own_mono hU (Nat.le_trans hbC.size (Nat.le_refl _))))
    have HT2 : Hid ((e2 ++ [(Value.slice Au p.2.length cu, p.2)]).map (·.2) = (es.take (j + 1)).map (·.2)) := by
      rw [Hid, take_snoc hp, List.map_append, List.map_append, HT.out]; rfl
    clear HO HQ HT hO hk hU hQ hbW hbN hbC ho hgr hat hne HRp HSP HOU i0 hi0 hz0 hz1 hz2 hM60 HB62 HB63 HB64 HB66 KB59
    have HO := HO2
    have HQ := HQ2
    have HT := HT2
    clear HO2 HQ2 HT2
    refine s_val hM67 (.inl rfl) rfl rfl (ev_move (.inr rfl) rfl) (fun a72 hM71 => ?_)
    clear hM67
    refine seg_nil (hK36 _ _ ?_)
    clear hK36 K36 QK36
    have hM73 := hM71.cut3 (t1 := 0) (t2 := 3) (t3 := 4) rfl rfl rfl
    clear hM71
    refine inb_n ?_
    refine hK35 _ _ ?_
    refine region_last fun K74 QK74 hK74 => ?_
    refine s_val hM73 (.inl rfl) rfl rfl (ev_move (.inl rfl) rfl) (fun a76 hM75 => ?_)
    clear hM73
    refine s_val hM75 (.inl rfl) rfl rfl (ev_bin rfl rfl rfl g_int (b_add (r := ((j + 1 : Nat) : Int)) (by omega) (by omega))) (fun a78 hM77 => ?_)
    clear hM75
    refine s_val hM77 (.inl rfl) rfl rfl (ev_move (.inr rfl) rfl) (fun a80 hM79 => ?_)
    clear hM77
    refine seg_nil (hK74 _ _ ?_)
    clear hK74 K74 QK74
    have hM81 := hM79.cut3 (t1 := 0) (t2 := 3) (t3 := 4) rfl rfl rfl
    clear hM79
    have hM82 := hM81.cut3 (t1 := 4) (t2 := 0) (t3 := 3) rfl rfl rfl
    clear hM81
    exact ⟨n - (j + 1), by omega, j + 1, A3, c3, (e2 ++ [(Value.slice Au p.2.length cu, p.2)]), rfl, hM82, HB70, HO, HQ, HT, hlt⟩
  case neg =>
    refine region_then fun K83 QK83 hK83 => ?_
    refine s_val hM19 (.inl rfl) rfl rfl (ev_move (.inl rfl) rfl) (fun a85 hM84 => ?_)
    clear hM19
    refine s_val hM84 (.inl rfl) rfl rfl (ev_move (.inl rfl) rfl) (fun a87 hM86 => ?_)
    clear hM84
    refine s_val hM86 (.inl rfl) rfl rfl (ev_len rfl rfl Try.underlying57) (fun a89 hM88 => ?_)
    clear hM86
    refine s_val hM88 (.inl rfl) rfl rfl (ev_bin rfl rfl rfl g_int (b_lss (b := false) (by rw [decide_eq_false_iff_not]; omega))) (fun a91 hM90 => ?_)
    clear hM88
    refine seg_nil (hK83 _ _ ?_)
    clear hK83 K83 QK83
    have hM92 := hM90.cut4 (t1 := 0) (t2 := 3) (t3 := 4) (t4 := 8) rfl rfl rfl rfl
    clear hM90
    refine wp_cond_false (hM92.ev (t := 8) rfl) ?_
    refine wp_exit ?_
    repeat (with_reducible refine th_e ?_)
    refine inb_e ?_
    refine hK11 _ _ ?_
    refine region_then fun K93 QK93 hK93 => ?_
    refine s_val hM92 (.inl rfl) rfl rfl (ev_move (.inl rfl) rfl) (fun a95 hM94 => ?_)
    clear hM92
    refine s_val hM94 (.inl rfl) rfl rfl (ev_move (.inr rfl) rfl) (fun a97 hM96 => ?_)
    clear hM94
    refine seg_nil (hK93 _ _ ?_)
    clear hK93 K93 QK93
    have hM98 := hM96.cut1 (t1 := 2) rfl
    clear hM96
    refine wp_ret ?_
    repeat (with_reducible first | refine th_r ?_ | refine inb_r ?_ | refine js_r ?_)
    refine ret_of (t := 2) rfl hM98 rfl ?_
    obtain rfl : j = n := by omega
    refine ⟨_, e2, rfl, (HO.out.below HB23.out), (HQ.out.below HB23.out), ?_, HB20.out⟩
    rw [HT.out, ← hnl, List.take_length]
end Go.Proofs.Ytflamhndmggiaaa
