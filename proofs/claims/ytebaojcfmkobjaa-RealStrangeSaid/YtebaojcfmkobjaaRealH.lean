/-
  The walk of RealExact: whatever the script, the call answers true and changes nothing that was there.
-/
import Derived.Test.YtebaojcfmkobjaaGr30
set_option linter.unusedVariables false
set_option linter.unusedSimpArgs false
namespace Go.Proofs.Ytebaojcfmkobjaa
open Go.RowKit

/-- A list of messages that is grown: its cells, its messages' slices, away from what may change. -/
def flat (ys : List (MsD × MsV)) : List Value := (ys.map fun p => (msC p.1 p.2).toList).flatten
theorem msC_len {x : MsD} {u : MsV} : (msC x u).toList.length = 18 := rfl
theorem mflat_cons (q : MsD × MsV) (r : List (MsD × MsV)) : flat (q :: r) = (msC q.1 q.2).toList ++ flat r := by simp only [flat, List.map_cons, List.flatten_cons]
theorem flat_snoc (ys : List (MsD × MsV)) (p : MsD × MsV) : flat (ys ++ [p]) = flat ys ++ (msC p.1 p.2).toList := by simp [flat]
theorem msC_in {x : MsD} {u : MsV} {i : Nat} {z : Value} (h : (msC x u)[i]? = some z) : i < 18 := (Array.getElem?_eq_some_iff.1 h).1
theorem flat_at {ys : List (MsD × MsV)} : ∀ {j : Nat} {p : MsD × MsV}, ys[j]? = some p → ∀ i z, (msC p.1 p.2)[i]? = some z → (flat ys)[j * 18 + i]? = some z := by
  induction ys with
  | nil => intro j p h; simp at h
  | cons q r ih =>
    intro j p h i z hz
    have hi := msC_in hz
    have hl := @msC_len q.1 q.2
    rw [mflat_cons]
    cases j with
    | zero =>
      have h : q = p := by simpa using h
      subst h
      rw [List.getElem?_append_left (by rw [hl]; omega), Nat.zero_mul, Nat.zero_add, Array.getElem?_toList]
      exact hz
    | succ j =>
      have h : r[j]? = some p := by simpa using h
      rw [List.getElem?_append_right (by rw [hl]; omega), hl, show (j + 1) * 18 + i - 18 = j * 18 + i by omega]
      exact ih h i z hz
def VF (K G1 G2 : Nat → Prop) (V : Value) (b : Nat) : Prop := BkG G1 G2 b ∨ V.ownBlock = some b ∨ K b
structure LiS (B : Nat) (K G1 G2 : Nat → Prop) (w : World) (V : Value) (ys : List (MsD × MsV)) : Prop where
  own : w.ownsRow B 42 18 V ys.length (flat ys)
  ap : ∀ b, V.ownBlock = some b → ¬ (BkG G1 G2 b ∨ K b)
  ms : ∀ p ∈ ys, MsIn (VF K G1 G2 V) w p.1 p.2
section
variable {B : Nat} {K K' G1 G2 G1' G2' : Nat → Prop} {w w' W0 : World} {V V' : Value} {ys : List (MsD × MsV)} {y : MsD} {u : MsV} {g r : Nat} {L L2 : List (List UInt8)} {sg : Int × Int → Bool} {ps : List (Int × Int)}
theorem LiS.below (h : LiS B K G1 G2 w V ys) (hb : Below w.heap.size w w') : LiS B K G1 G2 w' V ys := ⟨own_later h.own hb, h.ap, fun p hp => (h.ms p hp).below hb⟩
theorem LiS.nil : LiS B K G1 G2 w (.slice none 0 0) [] := ⟨World.ownsRow_nil _ _ _ _, (fun b hb => by cases hb), (fun p hp => by simp at hp)⟩
theorem LiS.lt (h : LiS B K G1 G2 w V ys) {b : Nat} (hb : V.ownBlock = some b) : b < w.heap.size := own_in h.own hb
/-- Books have changed. -/
theorem LiS.chg (h : LiS B K G1 G2 w V ys) (hc : Chg (BkG G1 G2) w w') (hG : ∀ b, BkG G1' G2' b → BkG G1 G2 b ∨ w.heap.size ≤ b) : LiS B K G1' G2' w' V ys := by
  refine ⟨own_at h.own (fun b hb => hc.at_ (h.lt hb) (fun hg => h.ap b hb (.inl hg))), fun b hb hg => ?_, fun p hp => (h.ms p hp).step (hc.mono (fun b hg => .inl (.inl hg))) (fun b hg => ?_)⟩
  · rcases hg with hg | hg
    · rcases hG b hg with hg | hg
      · exact h.ap b hb (.inl hg)
      · have := h.lt hb; omega
    · exact h.ap b hb (.inr hg)
  · rcases hg with hg | hg | hg
    · exact (hG b hg).imp (fun hg => Or.inl hg) id
    · exact .inl (Or.inr (Or.inl hg))
    · exact .inl (Or.inr (Or.inr hg))
/-- More is kept away from: what is new. -/
theorem LiS.away (h : LiS B K G1 G2 w V ys) (hK : ∀ b, K' b → K b ∨ w.heap.size ≤ b) : LiS B K' G1 G2 w V ys := by
  refine ⟨h.own, fun b hb hg => ?_, fun p hp => (h.ms p hp).to (fun b hg => ?_)⟩
  · rcases hg with hg | hg
    · exact h.ap b hb (.inl hg)
    · rcases hK b hg with hg | hg
      · exact h.ap b hb (.inr hg)
      · have := h.lt hb; omega
  · rcases hg with hg | hg | hg
    · exact .inl (Or.inl hg)
    · exact .inl (Or.inr (Or.inl hg))
    · exact (hK b hg).imp (fun hg => Or.inr (Or.inr hg)) id
theorem LiS.store {q : Nat} (h : LiS B K G1 G2 w V ys) (hg : w.grownBy w' (some q)) (hq : K q) : LiS B K G1 G2 w' V ys :=
  ⟨own_at h.own (fun b hb => (grown_chg hg).at_ (h.lt hb) (fun e => h.ap b hb (.inr (by subst e; exact hq)))), h.ap, fun p hp => (h.ms p hp).chg ((grown_chg hg).mono (fun b e => .inl (Or.inr (Or.inr (by subst e; exact hq)))))⟩
theorem LiS.push (h : LiS B K G1 G2 w V ys) (hy : MsIn (VF K G1 G2 V) w y u) (hg : w.grownBy w' V.ownBlock) (ho : w'.ownsRow B 42 18 V' (ys.length + 1) (flat ys ++ (msC y u).toList))
    (hb : V'.ownBlock = V.ownBlock ∨ V'.ownBlock = some w.heap.size) (hG : ∀ b, BkG G1 G2 b → b < w.heap.size) (hK : ∀ b, K b → b < w.heap.size) : LiS B K G1 G2 w' V' (ys ++ [(y, u)]) := by
  have hc : Chg (VF K G1 G2 V) w w' := Chg.of_grown hg (fun q e => .inl (Or.inr (Or.inl e)))
  have hF : ∀ b, VF K G1 G2 V' b → VF K G1 G2 V b ∨ w.heap.size ≤ b := fun b h => by
    rcases h with h | h | h
    · exact .inl (Or.inl h)
    · rcases hb with e | e
      · rw [e] at h; exact .inl (Or.inr (Or.inl h))
      · rw [e] at h; injection h with h; exact .inr (by omega)
    · exact .inl (Or.inr (Or.inr h))
  refine ⟨by rw [flat_snoc, List.length_append]; exact ho, fun b h2 hk => ?_, fun p hp => ?_⟩
  · rcases hb with e | e
    · rw [e] at h2; exact h.ap b h2 hk
    · rw [e] at h2
      injection h2 with h2
      rcases hk with hk | hk
      · have := hG b hk; omega
      · have := hK b hk; omega
  · rcases List.mem_append.1 hp with hp | hp
    · exact (h.ms p hp).step hc hF
    · obtain rfl : p = (y, u) := by simpa using hp
      exact hy.step hc hF
theorem TwK.grow (h : TwK W0 G1 G2 w g r L sg L2 ps) (hl : LiS W0.heap.size K G1 G2 w V ys) (hg : w.grownBy w' V.ownBlock) : TwK W0 G1 G2 w' g r L sg L2 ps :=
  Tw.chg (F := fun b => V.ownBlock = some b) h (Chg.of_grown hg (fun q e => .inl e)) (fun b e hb => hl.ap b e (.inl (.inl hb))) (fun b e hb => hl.ap b e (.inl (.inr hb))) (fun b e => (hl.own.lt b e).1)
/-- The j-th message. -/
theorem LiS.at_ {j : Nat} {p : MsD × MsV} (h : LiS B K G1 G2 w V ys) (hp : ys[j]? = some p) : ∃ gl c, V = .slice (some ⟨gl, 0, none⟩) ys.length c ∧ Rng w gl (j * 18) (msC p.1 p.2) ∧ MsIn (VF K G1 G2 V) w p.1 p.2 := by
  have hj := lt_of_at hp
  obtain ⟨gl, c, rfl, _, hlt⟩ := h.own.form (by omega)
  refine ⟨gl, c, rfl, ⟨hlt, fun i z hz => ?_⟩, h.ms p (mem_of_at hp)⟩
  have hi := msC_in hz
  rw [h.own.cellAt (j * 18 + i) (by omega)]
  exact flat_at hp i z hz
end
theorem news_row {w : World} {g : Nat} {t : TypeId} {D : Array Value} (h : Blk w g t D) : ∀ j u, D.toList[j]? = some u → w.cell? ((⟨g, 0, none⟩ : Addr).add j) = some u := fun j u hu => by
  have e : (⟨g, 0, none⟩ : Addr).add j = ⟨g, j, none⟩ := by rw [add_lit, Nat.zero_add]
  rw [e]; exact h.at_ (by simpa using hu)
theorem info_msg3 : (Try.prog.info? 42).map (fun i => (i.zero, i.size, i.bytes)) = some (some (.agg (msC zM zV)), 18, 256) := by kernel_rfl
theorem sgP_nil : sgP [] = fun _ => false := by funext q; simp [sgP]
def bkZ : Array Value := #[.slice none 0 0, .slice none 0 0, .slice none 0 0]
theorem build_book {M : List (Nat × Value)} {o : Oper} {w : World} {Z : Array Value} (ho : o.op = .build 33 #[]) (hZ : Z = bkZ) : Ev Try.prog M o w (.agg Z) := fun a n h => by
  subst hZ
  simp only [execOp, ho]
  simp [go_sem, bkZ]
theorem RfI.of_blk {w : World} {g : Nat} {Z : Array Value} (h : Blk w g 33 Z) (hZ : Z = bkZ) : RfI (fun b => b = g) w g [] [] := by
  subst hZ
  exact ⟨fun b hb => by subst hb; exact h.lt, rfl, by simp, fun b => b = g, fun _ => False, .slice none 0 0, none, none, 0, 0, fun _ => id, fun _ hf => hf.elim, fun _ _ => id, rfl, h, RwF.nil_, World.ownsRow_nil _ _ _ _, World.ownsRow_nil _ _ _ _, (fun b hb => by cases hb), (fun b hb => by cases hb), (fun b hb => by cases hb)⟩
theorem Sl.bool {w : World} {A : Option Addr} {n : Nat} {xs : List Bool} (h : Sl w 1 A n (bools xs)) {k : Nat} (hk : k < n) : ∃ b off u, A = some ⟨b, off, none⟩ ∧ w.cell? ⟨b, off + k, none⟩ = some (.bool u) ∧ b < w.heap.size := by
  obtain ⟨b, off, e, hb, hc⟩ := h.2 (by omega)
  have hl : k < xs.length := by have := h.1; simp [bools] at this; omega
  exact ⟨b, off, xs[k], e, hc k _ (by simp [bools, List.getElem?_eq_getElem hl]), hb⟩
def K1 (q b : Nat) : Prop := b = q
def K0 (_ : Nat) : Prop := False

theorem putLs_len (L : List (List UInt8)) (x : MsD) : (putLs L x).length ≤ L.length + 1 := by
  unfold putLs
  cases rawM x with
  | none => exact Nat.le_succ _
  | some bs => exact addL_len L bs

set_option maxRecDepth 100000 in
set_option maxHeartbeats 4000000 in
theorem real_exact (N : Int) (s : ScV) (ls : List Int) (xs : List (MsD × MsV)) (pb : List Bool) (who wch : List Int) (w : World) (HS : Hid (Scr w s ls xs pb who wch)) (HZ : Hid (ScZ s who wch)) {C : Array Value} (HC : Hid (C = scC N s)) :
    Calls Try.prog 3 #[.agg C] w fun e w' => e = .returned (.bool true) ∧ Below w.heap.size w w' := by
  obtain ⟨ZB, HZB⟩ : ∃ Z : Array Value, Hid (Z = bkZ) := ⟨_, rfl⟩
  go_enter Try.func3, Try.ntmps3
  refine act_off 169 [(0, .agg C)] (Frm.start rfl (by intro p hp; simp only [List.mem_cons, List.not_mem_nil, or_false] at hp; subst hp; rfl)) (fun a0 hM => ?_)
  have HB2 : Hid (Below w.heap.size w w) := Below.refl _ _
  refine region_then fun K3 QK3 hK3 => ?_
  refine s_alloc (e := 26) hM (.inl rfl) rfl rfl (V := fun g => .pointer (some ⟨g, 0, none⟩)) (ev_box hM rfl rfl) (fun g4 a10 w5 hM9 KB8_ hb6 hg7 => ?_)
  have KB8 := hide KB8_
  clear hM KB8_
  clear hg7
  have HB11 := hide (below_then HB2.out hb6)
  clear hb6 HB2
  have HB13 : Hid (Below w5.heap.size w5 w5) := Below.refl _ _
  refine s_val hM9 (.inl rfl) rfl rfl (ev_move (.inr rfl) rfl) (fun a15 hM14 => ?_)
  clear hM9
  refine seg_nil (hK3 _ _ ?_)
  clear hK3 K3 QK3
  have hM16 := hM14.cut1 (t1 := 1) rfl
  clear hM14
  refine wp_seq_k fun K17 hK17 => ?_
  refine region_then fun K18 QK18 hK18 => ?_
  refine s_val hM16 (.inl rfl) rfl rfl (ev_loadm rfl rfl (KB8.out.on HB13.out).rng Try.underlying26 rfl (by rw [HC.out]; exact info_scr)) (fun a20 hM19 => ?_)
  clear hM16
  refine s_call hM19 (.inl rfl) rfl rfl (f := 15) (args := #[.agg C]) (ev_call hM19 rfl rfl rfl (fun w => by simp [go_sem]) _) (law8_heavy N s ls xs pb who wch _ (hide (HS.out.below HB11.out)) HZ HC) (fun e w21 hp => ?_)
  obtain ⟨⟨qh, rfl, hq⟩, hb22⟩ := hp
  refine ⟨_, rfl, fun a24 hM23 => ?_⟩
  clear hM19
  have HB25 := hide (below_then HB11.out hb22)
  have HB26 := hide (below_then HB13.out hb22)
  clear hb22 HB11 HB13
  refine seg_nil (hK18 _ _ ?_)
  clear hK18 K18 QK18
  have hM27 := hM23.cut2 (t1 := 1) (t2 := 15) rfl rfl
  clear hM23
  cases qh
  case true =>
    refine wp_cond_true (hM27.ev (t := 15) rfl) ?_
    refine region_then fun K28 QK28 hK28 => ?_
    refine s_val hM27 (.inl rfl) rfl rfl (ev_move (.inr rfl) rfl) (fun a30 hM29 => ?_)
    clear hM27
    refine seg_nil (hK28 _ _ ?_)
    clear hK28 K28 QK28
    have hM31 := hM29.cut1 (t1 := 2) rfl
    clear hM29
    refine wp_ret ?_
    repeat (with_reducible first | refine th_r ?_ | refine inb_r ?_ | refine js_r ?_ | refine jq_r ?_)
    refine ret_of (t := 2) rfl hM31 rfl ?_
    exact ⟨rfl, HB25.out⟩
  case false =>
    have HLT := hide (hq rfl)
    clear hq
    have HB00 := HB25
    refine wp_cond_false (hM27.ev (t := 15) rfl) ?_
    refine wp_skip ?_
    refine hK17 _ _ ?_
    refine region_then fun K32 QK32 hK32 => ?_
    have HS_ := hide (HS.out.below HB25.out)
    have KB33 := hide (KB8.out.on HB26.out)
    clear HS KB8 HB25 HB26
    have HS := HS_
    clear HS_
    have HB35 : Hid (Below w21.heap.size w21 w21) := Below.refl _ _
    refine s_call hM27 (.inl rfl) rfl rfl (f := 16) (args := #[]) (ev_call hM27 rfl rfl rfl (fun w => by simp [go_sem]) _) (book_New _) (fun e w36 hp => ?_)
    obtain ⟨g, G1, rfl, hB, hlo, hb37⟩ := hp
    have HBW := hide (show BkK w21 G1 w36 g [] (fun _ => false) from ⟨hB, hlo, hb37⟩)
    clear hB hlo
    refine ⟨_, rfl, fun a39 hM38 => ?_⟩
    clear hM27
    have HB40 := hide (below_then HB35.out hb37)
    clear hb37 HB35
    have HB42 : Hid (Below w36.heap.size w36 w36) := Below.refl _ _
    refine s_val hM38 (.inl rfl) rfl rfl (ev_move (.inr rfl) rfl) (fun a44 hM43 => ?_)
    clear hM38
    refine seg_nil (hK32 _ _ ?_)
    clear hK32 K32 QK32
    have hM45 := hM43.cut2 (t1 := 1) (t2 := 3) rfl rfl
    clear hM43
    refine wp_seq_k fun K46 hK46 => ?_
    refine region_then fun K47 QK47 hK47 => ?_
    refine s_val hM45 (.inl rfl) rfl rfl (ev_move (.inl rfl) rfl) (fun a49 hM48 => ?_)
    clear hM45
    refine s_val hM48 (.inl rfl) rfl rfl (ev_ptrnil rfl rfl (u_ptr (by kernel_rfl)) g_ptr) (fun a51 hM50 => ?_)
    clear hM48
    refine seg_nil (hK47 _ _ ?_)
    clear hK47 K47 QK47
    have hM52 := hM50.cut3 (t1 := 1) (t2 := 3) (t3 := 18) rfl rfl rfl
    clear hM50
    refine wp_cond_false (hM52.ev (t := 18) rfl) ?_
    refine wp_skip ?_
    refine hK46 _ _ ?_
    refine region_then fun K53 QK53 hK53 => ?_
    refine s_val hM52 (.inl rfl) rfl rfl (build_book rfl HZB.out) (fun a55 hM54 => ?_)
    clear hM52
    refine s_alloc (e := 33) hM54 (.inl rfl) rfl rfl (V := fun g => .pointer (some ⟨g, 0, none⟩)) (ev_box hM54 rfl rfl) (fun g56 a62 w57 hM61 KB60_ hb58 hg59 => ?_)
    have KB60 := hide KB60_
    clear hM54 KB60_
    have lo63 := hide (Nat.le_trans HB40.out.size hg59)
    have lo64 := hide (Nat.le_trans HB42.out.size hg59)
    clear hg59
    have HB65 := hide (below_then HB40.out hb58)
    have HB66 := hide (below_then HB42.out hb58)
    clear hb58 HB40 HB42
    have HB68 : Hid (Below w57.heap.size w57 w57) := Below.refl _ _
    have HT := hide (show TwK w21 G1 (fun b => b = g56) w57 g g56 [] (sgP []) [] [] from ⟨by rw [sgP_nil]; exact ((HBW.out.below HB66.out)).bw.bk, RfI.of_blk KB60.out HZB.out, fun b h e => by have e : b = g56 := e; have h1 := HBW.out.bw.bk.lt b h; have h2 := lo64.out; omega, HBW.out.bw.lo, fun b e => by have e : b = g56 := e; rw [e]; exact lo63.out, ((HBW.out.below HB66.out)).bw.below⟩)
    clear HBW
    refine s_val hM61 (.inl rfl) rfl rfl (ev_move (.inr rfl) rfl) (fun a70 hM69 => ?_)
    clear hM61
    refine seg_nil (hK53 _ _ ?_)
    clear hK53 K53 QK53
    have hM71 := hM69.cut3 (t1 := 1) (t2 := 3) (t3 := 4) rfl rfl rfl
    clear hM69
    refine region_then fun K72 QK72 hK72 => ?_
    refine s_val hM71 (.inl rfl) rfl rfl (ev_move (.inr rfl) rfl) (fun a74 hM73 => ?_)
    clear hM71
    refine seg_nil (hK72 _ _ ?_)
    clear hK72 K72 QK72
    have hM75 := hM73.cut4 (t1 := 1) (t2 := 3) (t3 := 4) (t4 := 5) rfl rfl rfl rfl
    clear hM73
    refine wp_seq_k fun K76 hK76 => ?_
    refine region_then fun K77 QK77 hK77 => ?_
    refine s_val hM75 (.inl rfl) rfl rfl (ev_move (.inr rfl) rfl) (fun a79 hM78 => ?_)
    clear hM75
    refine seg_nil (hK77 _ _ ?_)
    clear hK77 K77 QK77
    have hM80 := hM78.cut5 (t1 := 1) (t2 := 3) (t3 := 4) (t4 := 5) (t5 := 6) rfl rfl rfl rfl rfl
    clear hM78
    have HLI := hide (LiS.nil (B := w21.heap.size) (K := K0) (G1 := G1) (G2 := fun b => b = g56) (w := w57))
    have HLN : Hid (([] : List (MsD × MsV)).length = 0 ∧ ([] : List (List UInt8)).length ≤ 0 ∧ 0 ≤ 12) := ⟨rfl, Nat.le_refl _, by omega⟩
    have hM81 := hM80.cut5 (t1 := 6) (t2 := 1) (t3 := 3) (t4 := 4) (t5 := 5) rfl rfl rfl rfl rfl
    clear hM80
    refine wp_join (fun a w' => ∃ (j : Nat) (V : Value) (ys : List (MsD × MsV)) (G1 : Nat → Prop) (G2 : Nat → Prop) (L : List (List UInt8)), Frm a 169 [(1, .pointer (some ⟨g4, 0, none⟩)), (3, .pointer (some ⟨g, 0, none⟩)), (4, .pointer (some ⟨g56, 0, none⟩)), (5, V)] ∧ Hid (Below w21.heap.size w21 w') ∧ Hid (TwK w21 G1 G2 w' g g56 L (sgP []) L []) ∧ Hid (LiS w21.heap.size K0 G1 G2 w' V ys) ∧ Hid (ys.length = j ∧ L.length ≤ j ∧ j ≤ 12)) ?_ ?_
    ·
      refine wp_block ?_
      refine wp_loop_ghost (fun m a w' => ∃ (j : Nat) (V : Value) (ys : List (MsD × MsV)) (G1 : Nat → Prop) (G2 : Nat → Prop) (L : List (List UInt8)), m = s.l.n - j ∧ Frm a 169 [(6, .int .i64 (j : Int)), (1, .pointer (some ⟨g4, 0, none⟩)), (3, .pointer (some ⟨g, 0, none⟩)), (4, .pointer (some ⟨g56, 0, none⟩)), (5, V)] ∧ Hid (Below w21.heap.size w21 w') ∧ Hid (TwK w21 G1 G2 w' g g56 L (sgP []) L []) ∧ Hid (LiS w21.heap.size K0 G1 G2 w' V ys) ∧ Hid (ys.length = j ∧ L.length ≤ j ∧ j ≤ 12)) s.l.n ⟨0, .slice none 0 0, [], G1, (fun b => b = g56), [],  by omega, hM81, HB65, (hide (HT.out.below HB68.out)), HLI, HLN⟩ ?_
      clear HB65 HB66 HB68 hM81 HT HLI HLN
      rintro m86 a83 w82 ⟨j, V, ys, G1, G2, L, rfl, hM84, HB85, HT, HLI, HLN⟩
      have HB88 : Hid (Below w82.heap.size w82 w82) := Below.refl _ _
      refine wp_seq_k fun K89 hK89 => ?_
      by_cases hlt : j < s.l.n
      case neg =>
        refine region_then fun K90 QK90 hK90 => ?_
        refine s_val hM84 (.inl rfl) rfl rfl (ev_move (.inl rfl) rfl) (fun a92 hM91 => ?_)
        clear hM84
        refine s_val hM91 (.inl rfl) rfl rfl (ev_fldw (m := 2) rfl rfl (fun w => by simp [go_sem])) (fun a94 hM93 => ?_)
        clear hM91
        refine s_val hM93 (.inl rfl) rfl rfl (ev_load1 (v := .slice (s.l.A) (s.l.n) (s.l.c)) rfl rfl ((KB33.out.on HB85.out).rng.at_ (m := 2) (by rw [HC.out]; rfl)) (isAgg_no Try.underlying23 rfl)) (fun a96 hM95 => ?_)
        clear hM93
        refine s_val hM95 (.inl rfl) rfl rfl (ev_len rfl rfl Try.underlying23) (fun a98 hM97 => ?_)
        clear hM95
        refine s_val hM97 (.inl rfl) rfl rfl (ev_bin rfl rfl rfl g_int (b_lss (b := false) (by rw [decide_eq_false_iff_not]; omega))) (fun a100 hM99 => ?_)
        clear hM97
        refine s_val hM99 (.inl rfl) rfl rfl (ev_move (.inl rfl) rfl) (fun a102 hM101 => ?_)
        clear hM99
        refine s_skip hM101 rfl rfl rfl rfl rfl rfl (fun a104 hM103 => ?_)
        clear hM101
        refine s_skip hM103 rfl rfl rfl rfl rfl rfl (fun a106 hM105 => ?_)
        clear hM103
        refine s_val hM105 (.inl rfl) rfl rfl (ev_pick rfl rfl rfl) (fun a108 hM107 => ?_)
        clear hM105
        refine seg_nil (hK90 _ _ ?_)
        clear hK90 K90 QK90
        have hM109 := hM107.cut6 (t1 := 1) (t2 := 3) (t3 := 4) (t4 := 5) (t5 := 6) (t6 := 29) rfl rfl rfl rfl rfl rfl
        clear hM107
        refine wp_cond_false (hM109.ev (t := 29) rfl) ?_
        refine wp_exit ?_
        repeat (with_reducible refine th_e ?_)
        refine inb_e ?_
        have hM110 := hM109.cut4 (t1 := 1) (t2 := 3) (t3 := 4) (t4 := 5) rfl rfl rfl rfl
        clear hM109
        exact jq_n ⟨j, V, ys, G1, G2, L, hM110, HB85, (hide (HT.out.below HB88.out)), (hide (HLI.out.below HB88.out)), HLN⟩
      case pos =>
        by_cases hlt2 : j < 12
        case neg =>
          refine region_then fun K111 QK111 hK111 => ?_
          refine s_val hM84 (.inl rfl) rfl rfl (ev_move (.inl rfl) rfl) (fun a113 hM112 => ?_)
          clear hM84
          refine s_val hM112 (.inl rfl) rfl rfl (ev_fldw (m := 2) rfl rfl (fun w => by simp [go_sem])) (fun a115 hM114 => ?_)
          clear hM112
          refine s_val hM114 (.inl rfl) rfl rfl (ev_load1 (v := .slice (s.l.A) (s.l.n) (s.l.c)) rfl rfl ((KB33.out.on HB85.out).rng.at_ (m := 2) (by rw [HC.out]; rfl)) (isAgg_no Try.underlying23 rfl)) (fun a117 hM116 => ?_)
          clear hM114
          refine s_val hM116 (.inl rfl) rfl rfl (ev_len rfl rfl Try.underlying23) (fun a119 hM118 => ?_)
          clear hM116
          refine s_val hM118 (.inl rfl) rfl rfl (ev_bin rfl rfl rfl g_int (b_lss (b := true) (by rw [decide_eq_true_eq]; omega))) (fun a121 hM120 => ?_)
          clear hM118
          refine s_val hM120 (.inl rfl) rfl rfl (ev_move (.inl rfl) rfl) (fun a123 hM122 => ?_)
          clear hM120
          refine s_val hM122 (.inr ⟨_, _, _, rfl, rfl, rfl⟩) rfl rfl (ev_move (.inl rfl) rfl) (fun a125 hM124 => ?_)
          clear hM122
          refine s_val hM124 (.inr ⟨_, _, _, rfl, rfl, rfl⟩) rfl rfl (ev_bin rfl rfl rfl g_int (b_lss (b := false) (by rw [decide_eq_false_iff_not]; omega))) (fun a127 hM126 => ?_)
          clear hM124
          refine s_val hM126 (.inl rfl) rfl rfl (ev_pick rfl rfl rfl) (fun a129 hM128 => ?_)
          clear hM126
          refine seg_nil (hK111 _ _ ?_)
          clear hK111 K111 QK111
          have hM130 := hM128.cut6 (t1 := 1) (t2 := 3) (t3 := 4) (t4 := 5) (t5 := 6) (t6 := 29) rfl rfl rfl rfl rfl rfl
          clear hM128
          refine wp_cond_false (hM130.ev (t := 29) rfl) ?_
          refine wp_exit ?_
          repeat (with_reducible refine th_e ?_)
          refine inb_e ?_
          have hM131 := hM130.cut4 (t1 := 1) (t2 := 3) (t3 := 4) (t4 := 5) rfl rfl rfl rfl
          clear hM130
          exact jq_n ⟨j, V, ys, G1, G2, L, hM131, HB85, (hide (HT.out.below HB88.out)), (hide (HLI.out.below HB88.out)), HLN⟩
        case pos =>
          refine region_then fun K132 QK132 hK132 => ?_
          refine s_val hM84 (.inl rfl) rfl rfl (ev_move (.inl rfl) rfl) (fun a134 hM133 => ?_)
          clear hM84
          refine s_val hM133 (.inl rfl) rfl rfl (ev_fldw (m := 2) rfl rfl (fun w => by simp [go_sem])) (fun a136 hM135 => ?_)
          clear hM133
          refine s_val hM135 (.inl rfl) rfl rfl (ev_load1 (v := .slice (s.l.A) (s.l.n) (s.l.c)) rfl rfl ((KB33.out.on HB85.out).rng.at_ (m := 2) (by rw [HC.out]; rfl)) (isAgg_no Try.underlying23 rfl)) (fun a138 hM137 => ?_)
          clear hM135
          refine s_val hM137 (.inl rfl) rfl rfl (ev_len rfl rfl Try.underlying23) (fun a140 hM139 => ?_)
          clear hM137
          refine s_val hM139 (.inl rfl) rfl rfl (ev_bin rfl rfl rfl g_int (b_lss (b := true) (by rw [decide_eq_true_eq]; omega))) (fun a142 hM141 => ?_)
          clear hM139
          refine s_val hM141 (.inl rfl) rfl rfl (ev_move (.inl rfl) rfl) (fun a144 hM143 => ?_)
          clear hM141
          refine s_val hM143 (.inr ⟨_, _, _, rfl, rfl, rfl⟩) rfl rfl (ev_move (.inl rfl) rfl) (fun a146 hM145 => ?_)
          clear hM143
          refine s_val hM145 (.inr ⟨_, _, _, rfl, rfl, rfl⟩) rfl rfl (ev_bin rfl rfl rfl g_int (b_lss (b := true) (by rw [decide_eq_true_eq]; omega))) (fun a148 hM147 => ?_)
          clear hM145
          refine s_val hM147 (.inl rfl) rfl rfl (ev_pick rfl rfl rfl) (fun a150 hM149 => ?_)
          clear hM147
          refine seg_nil (hK132 _ _ ?_)
          clear hK132 K132 QK132
          have hM151 := hM149.cut6 (t1 := 1) (t2 := 3) (t3 := 4) (t4 := 5) (t5 := 6) (t6 := 29) rfl rfl rfl rfl rfl rfl
          clear hM149
          refine wp_cond_true (hM151.ev (t := 29) rfl) ?_
          refine wp_skip ?_
          refine hK89 _ _ ?_
          refine wp_seq_k fun K152 hK152 => ?_
          refine wp_block ?_
          obtain ⟨x, v, hxv_⟩ : ∃ x v, xs[j]? = some (x, v) := ⟨_, _, List.getElem?_eq_getElem (by rw [((HS.out.below HB85.out)).l.1]; omega)⟩
          have hxv := hide hxv_
          clear hxv_
          have HMA := hide (((HS.out.below HB85.out)).l.2 j (x, v) hxv.out)
          obtain ⟨bb, off, hA, hbl, hc⟩ := HMA.out.at_
          obtain ⟨MC, HMC⟩ : ∃ C : Array Value, Hid (C = msC x v) := ⟨_, rfl⟩
          have HRMC : Hid (Rng w82 bb (off + j * 18) MC) := ⟨hbl, by rw [HMC.out]; exact hc⟩
          have HMS := hide HMA.out.s
          have HML := hide HMA.out.l
          have HMD := hide HMA.out.d
          clear hc hbl HMA
          have HB154 : Hid (Below w82.heap.size w82 w82) := Below.refl _ _
          have HLX := HLT.out.l j x v hlt2 hxv.out
          have HMK := hide (MsL.light HLX)
          have HMZ := hide (MsL.z HML.out)
          clear HLX HML
          refine region_then fun K155 QK155 hK155 => ?_
          refine s_val hM151 (.inl rfl) rfl rfl (ev_fldw (m := 2) rfl rfl (fun w => by simp [go_sem])) (fun a157 hM156 => ?_)
          clear hM151
          refine s_val hM156 (.inl rfl) rfl rfl (ev_load1 (v := .slice (s.l.A) (s.l.n) (s.l.c)) rfl rfl ((KB33.out.on HB85.out).rng.at_ (m := 2) (by rw [HC.out]; rfl)) (isAgg_no Try.underlying23 rfl)) (fun a159 hM158 => ?_)
          clear hM156
          refine s_val hM158 (.inl rfl) rfl rfl (ev_move (.inl rfl) rfl) (fun a161 hM160 => ?_)
          clear hM158
          refine s_val hM160 (.inl rfl) rfl rfl (ev_idx (b := bb) (k := j) (sz := 18) (p := off + j * 18) rfl (by rw [← hA]; rfl) rfl Try.underlying23 (by kernel_rfl) hlt (by omega)) (fun a163 hM162 => ?_)
          clear hM160
          refine s_val hM162 (.inl rfl) rfl rfl (ev_loadm rfl rfl (HRMC.out.below HB154.out) Try.underlying42 rfl (by rw [HMC.out]; exact Try.infoMsg)) (fun a165 hM164 => ?_)
          clear hM162
          refine s_call hM164 (.inl rfl) rfl rfl (f := 17) (args := #[.agg MC]) (ev_call hM164 rfl rfl rfl (fun w => by simp [go_sem]) _) (copy_msg2 (hide (HMS.out.below HB154.out)) HMK HMZ HMC) (fun e w166 hp => ?_)
          obtain ⟨D, u, rfl, HD, HCF, hb167⟩ := hp
          have HI := hide (MsIn.of_own (F := VF K0 G1 G2 V) HCF.out.1 HCF.out.2.1 (MsS.k2 (HMS.out.below HB154.out) HCF.out.1.s HMK.out) (fun b h => by
            rcases h with h | h | h
            · exact ((HT.out.below HB88.out)).lt b h
            · exact ((HLI.out.below HB88.out)).lt h
            · exact (h : False).elim))
          clear HCF
          refine ⟨_, rfl, fun a169 hM168 => ?_⟩
          clear hM164
          have HB170 := hide (below_then HB85.out hb167)
          have HB171 := hide (below_then HB88.out hb167)
          have HB172 := hide (below_then HB154.out hb167)
          clear hb167 HB85 HB88 HB154
          have HB174 : Hid (Below w166.heap.size w166 w166) := Below.refl _ _
          refine s_new hM168 rfl rfl rfl rfl alloc_msg rfl rfl rfl rfl (by rw [HD.out]; exact Try.infoMsg) (by rw [HD.out]; rfl) (one_msg HD.out) (fun g175 a181 w176 hM180 KB179_ hb177 hg178 => ?_)
          have KB179 := hide KB179_
          clear hM168 KB179_
          have lo182 := hide (Nat.le_trans HB170.out.size hg178)
          have lo183 := hide (Nat.le_trans HB171.out.size hg178)
          have lo184 := hide (Nat.le_trans HB172.out.size hg178)
          have lo185 := hide (Nat.le_trans HB174.out.size hg178)
          clear hg178
          have HB186 := hide (below_then HB170.out hb177)
          have HB187 := hide (below_then HB171.out hb177)
          have HB188 := hide (below_then HB172.out hb177)
          have HB189 := hide (below_then HB174.out hb177)
          clear hb177 HB170 HB171 HB172 HB174
          have HB191 : Hid (Below w176.heap.size w176 w176) := Below.refl _ _
          have HLI_ := hide (HLI.out.away (K' := K1 g175) (fun b e => .inr (by have e : b = g175 := e; rw [e]; exact lo183.out)))
          have HI_ := hide (HI.out.to (F' := VF (K1 g175) G1 G2 V) (fun b h => by
            rcases h with h | h | h
            · exact .inl (Or.inl h)
            · exact .inl (Or.inr (Or.inl h))
            · exact .inr (by have h : b = g175 := h; rw [h]; exact lo185.out)))
          have HN7 : Hid (¬ BkG G1 G2 g175) := fun h => by have h1 := HT.out.lt _ h; have h2 := lo183.out; omega
          have H07 := lo182
          clear HLI HI
          have HLI := HLI_
          have HI := HI_
          clear HLI_ HI_
          refine seg_nil (hK155 _ _ ?_)
          clear hK155 K155 QK155
          have hM192 := hM180.cut6 (t1 := 1) (t2 := 3) (t3 := 4) (t4 := 5) (t5 := 6) (t6 := 7) rfl rfl rfl rfl rfl rfl
          clear hM180
          refine wp_seq_k fun K193 hK193 => ?_
          by_cases hpu : j < s.pu.n
          case neg =>
            refine region_then fun K194 QK194 hK194 => ?_
            refine s_val hM192 (.inl rfl) rfl rfl (ev_move (.inl rfl) rfl) (fun a196 hM195 => ?_)
            clear hM192
            refine s_val hM195 (.inl rfl) rfl rfl (ev_fldw (m := 3) rfl rfl (fun w => by simp [go_sem])) (fun a198 hM197 => ?_)
            clear hM195
            refine s_val hM197 (.inl rfl) rfl rfl (ev_load1 (v := .slice (s.pu.A) (s.pu.n) (s.pu.c)) rfl rfl ((KB33.out.on HB186.out).rng.at_ (m := 3) (by rw [HC.out]; rfl)) (isAgg_no Try.underlying24 rfl)) (fun a200 hM199 => ?_)
            clear hM197
            refine s_val hM199 (.inl rfl) rfl rfl (ev_len rfl rfl Try.underlying24) (fun a202 hM201 => ?_)
            clear hM199
            refine s_val hM201 (.inl rfl) rfl rfl (ev_bin rfl rfl rfl g_int (b_lss (b := false) (by rw [decide_eq_false_iff_not]; omega))) (fun a204 hM203 => ?_)
            clear hM201
            refine s_val hM203 (.inl rfl) rfl rfl (ev_move (.inl rfl) rfl) (fun a206 hM205 => ?_)
            clear hM203
            refine s_skip hM205 rfl rfl rfl rfl rfl rfl (fun a208 hM207 => ?_)
            clear hM205
            refine s_skip hM207 rfl rfl rfl rfl rfl rfl (fun a210 hM209 => ?_)
            clear hM207
            refine s_skip hM209 rfl rfl rfl rfl rfl rfl (fun a212 hM211 => ?_)
            clear hM209
            refine s_skip hM211 rfl rfl rfl rfl rfl rfl (fun a214 hM213 => ?_)
            clear hM211
            refine s_skip hM213 rfl rfl rfl rfl rfl rfl (fun a216 hM215 => ?_)
            clear hM213
            refine s_val hM215 (.inl rfl) rfl rfl (ev_pick rfl rfl rfl) (fun a218 hM217 => ?_)
            clear hM215
            refine seg_nil (hK194 _ _ ?_)
            clear hK194 K194 QK194
            have hM219 := hM217.cut7 (t1 := 1) (t2 := 3) (t3 := 4) (t4 := 5) (t5 := 6) (t6 := 7) (t7 := 49) rfl rfl rfl rfl rfl rfl rfl
            clear hM217
            refine wp_cond_false (hM219.ev (t := 49) rfl) ?_
            refine wp_skip ?_
            refine hK193 _ _ ?_
            refine region_last fun K220 QK220 hK220 => ?_
            refine s_val hM219 (.inl rfl) rfl rfl (ev_move (.inl rfl) rfl) (fun a222 hM221 => ?_)
            clear hM219
            refine s_val hM221 (.inl rfl) rfl rfl (ev_loadm rfl rfl (KB179.out.on HB191.out).rng Try.underlying42 rfl (by rw [HD.out]; exact Try.infoMsg)) (fun a224 hM223 => ?_)
            clear hM221
            refine s_alloc (e := 42) hM223 (.inl rfl) rfl rfl (V := fun g => .slice (some ⟨g, 0, none⟩) 1 1) (ev_bsg (C := D) hM223 rfl rfl (fun w => by rw [HD.out]; kernel_rfl)) (fun g225 a231 w226 hM230 KB229_ hb227 hg228 => ?_)
            have KB229 := hide KB229_
            clear hM223 KB229_
            clear hg228
            have HB232 := hide (below_then HB186.out hb227)
            have HB233 := hide (below_then HB187.out hb227)
            have HB234 := hide (below_then HB188.out hb227)
            have HB235 := hide (below_then HB189.out hb227)
            have HB236 := hide (below_then HB191.out hb227)
            clear hb227 HB186 HB187 HB188 HB189 HB191
            have HB238 : Hid (Below w226.heap.size w226 w226) := Below.refl _ _
            obtain ⟨i0, hi, hz0, hz1, hz2⟩ := info_parts info_msg3
            have hLI := (HLI.out.below HB233.out)
            have hTT := (HT.out.below HB233.out)
            have hII := (HI.out.below HB235.out)
            have hK7 := (KB179.out.on HB236.out)
            refine s_append hM230 (.inl rfl) rfl rfl rfl w21.heap.size 42 i0 (.agg (msC zM zV)) 18 256 Try.underlying23 hi hz0 hz1 hz2 rfl (by decide) ys.length (flat ys) rfl hLI.own ⟨g225, 0, none⟩ 1 1 D.toList rfl (by rw [HD.out]; rfl) (news_row (KB229.out.on HB238.out)) (one_msg HD.out) (by have := HLN.out; unfold maxLen; omega) (by have := HLN.out; omega) HB232.out.size (fun V2 a240 w241 hM239 ho hgr hat => ?_)
            rw [HD.out] at ho
            have HT_ := hide (hTT.grow hLI hgr)
            have HLI_ := hide ((hLI.push hII hgr ho hat hTT.lt (fun b e => by have e : b = g175 := e; rw [e]; exact hK7.lt)).away (K' := K0) (fun b e => (e : False).elim))
            have HLN2 : Hid ((ys ++ [(x, u)]).length = j + 1 ∧ L.length ≤ j + 1 ∧ j + 1 ≤ 12) := ⟨by rw [List.length_append, HLN.out.1]; rfl, by have := HLN.out.2.1; omega, by omega⟩
            have HB242 := hide HT_.out.tw.below
            clear hTT hLI hII hK7 ho hgr hat HT HLI HI hM230 HB232 HB233 HB234 HB235 HB236 HB238
            have HT := HT_
            have HLI := HLI_
            clear HT_ HLI_
            have HB244 : Hid (Below w241.heap.size w241 w241) := Below.refl _ _
            refine s_val hM239 (.inl rfl) rfl rfl (ev_move (.inr rfl) rfl) (fun a246 hM245 => ?_)
            clear hM239
            refine seg_nil (hK220 _ _ ?_)
            clear hK220 K220 QK220
            have hM247 := hM245.cut5 (t1 := 1) (t2 := 3) (t3 := 4) (t4 := 5) (t5 := 6) rfl rfl rfl rfl rfl
            clear hM245
            refine inb_n ?_
            refine hK152 _ _ ?_
            refine region_last fun K248 QK248 hK248 => ?_
            refine s_val hM247 (.inl rfl) rfl rfl (ev_move (.inl rfl) rfl) (fun a250 hM249 => ?_)
            clear hM247
            refine s_val hM249 (.inl rfl) rfl rfl (ev_bin rfl rfl rfl g_int (b_add (r := ((j + 1 : Nat) : Int)) (by omega) (by omega))) (fun a252 hM251 => ?_)
            clear hM249
            refine s_val hM251 (.inl rfl) rfl rfl (ev_move (.inr rfl) rfl) (fun a254 hM253 => ?_)
            clear hM251
            refine seg_nil (hK248 _ _ ?_)
            clear hK248 K248 QK248
            have hM255 := hM253.cut5 (t1 := 1) (t2 := 3) (t3 := 4) (t4 := 5) (t5 := 6) rfl rfl rfl rfl rfl
            clear hM253
            have hM256 := hM255.cut5 (t1 := 6) (t2 := 1) (t3 := 3) (t4 := 4) (t5 := 5) rfl rfl rfl rfl rfl
            clear hM255
            exact ⟨s.l.n - (j + 1), by omega, j + 1, V2, (ys ++ [(x, u)]), G1, G2, L, rfl, hM256, HB242, (hide (HT.out.below HB244.out)), (hide (HLI.out.below HB244.out)), HLN2⟩
          case pos =>
            obtain ⟨bp, offp, pv, hAp, hcp, hbp⟩ := ((HS.out.below HB186.out)).pu.bool hpu
            have HCP := hide (CellAt.of hcp)
            clear hcp hbp
            have HB258 : Hid (Below w176.heap.size w176 w176) := Below.refl _ _
            cases pv
            case false =>
              refine region_then fun K259 QK259 hK259 => ?_
              refine s_val hM192 (.inl rfl) rfl rfl (ev_move (.inl rfl) rfl) (fun a261 hM260 => ?_)
              clear hM192
              refine s_val hM260 (.inl rfl) rfl rfl (ev_fldw (m := 3) rfl rfl (fun w => by simp [go_sem])) (fun a263 hM262 => ?_)
              clear hM260
              refine s_val hM262 (.inl rfl) rfl rfl (ev_load1 (v := .slice (s.pu.A) (s.pu.n) (s.pu.c)) rfl rfl ((KB33.out.on HB186.out).rng.at_ (m := 3) (by rw [HC.out]; rfl)) (isAgg_no Try.underlying24 rfl)) (fun a265 hM264 => ?_)
              clear hM262
              refine s_val hM264 (.inl rfl) rfl rfl (ev_len rfl rfl Try.underlying24) (fun a267 hM266 => ?_)
              clear hM264
              refine s_val hM266 (.inl rfl) rfl rfl (ev_bin rfl rfl rfl g_int (b_lss (b := true) (by rw [decide_eq_true_eq]; omega))) (fun a269 hM268 => ?_)
              clear hM266
              refine s_val hM268 (.inl rfl) rfl rfl (ev_move (.inl rfl) rfl) (fun a271 hM270 => ?_)
              clear hM268
              refine s_val hM270 (.inr ⟨_, _, _, rfl, rfl, rfl⟩) rfl rfl (ev_fldw (m := 3) rfl rfl (fun w => by simp [go_sem])) (fun a273 hM272 => ?_)
              clear hM270
              refine s_val hM272 (.inr ⟨_, _, _, rfl, rfl, rfl⟩) rfl rfl (ev_load1 (v := .slice (s.pu.A) (s.pu.n) (s.pu.c)) rfl rfl ((KB33.out.on HB186.out).rng.at_ (m := 3) (by rw [HC.out]; rfl)) (isAgg_no Try.underlying24 rfl)) (fun a275 hM274 => ?_)
              clear hM272
              refine s_val hM274 (.inr ⟨_, _, _, rfl, rfl, rfl⟩) rfl rfl (ev_move (.inl rfl) rfl) (fun a277 hM276 => ?_)
              clear hM274
              refine s_val hM276 (.inr ⟨_, _, _, rfl, rfl, rfl⟩) rfl rfl (ev_idx (b := bp) (k := j) (sz := 1) (p := offp + j) rfl (by rw [← hAp]; rfl) rfl Try.underlying24 (by kernel_rfl) hpu (by omega)) (fun a279 hM278 => ?_)
              clear hM276
              refine s_val hM278 (.inr ⟨_, _, _, rfl, rfl, rfl⟩) rfl rfl (ev_load1 (v := .bool false) rfl rfl ((HCP.out.below HB258.out)).2 (isAgg_no Try.underlying4 rfl)) (fun a281 hM280 => ?_)
              clear hM278
              refine s_val hM280 (.inl rfl) rfl rfl (ev_pick rfl rfl rfl) (fun a283 hM282 => ?_)
              clear hM280
              refine seg_nil (hK259 _ _ ?_)
              clear hK259 K259 QK259
              have hM284 := hM282.cut7 (t1 := 1) (t2 := 3) (t3 := 4) (t4 := 5) (t5 := 6) (t6 := 7) (t7 := 49) rfl rfl rfl rfl rfl rfl rfl
              clear hM282
              refine wp_cond_false (hM284.ev (t := 49) rfl) ?_
              refine wp_skip ?_
              refine hK193 _ _ ?_
              refine region_last fun K285 QK285 hK285 => ?_
              refine s_val hM284 (.inl rfl) rfl rfl (ev_move (.inl rfl) rfl) (fun a287 hM286 => ?_)
              clear hM284
              refine s_val hM286 (.inl rfl) rfl rfl (ev_loadm rfl rfl (KB179.out.on HB191.out).rng Try.underlying42 rfl (by rw [HD.out]; exact Try.infoMsg)) (fun a289 hM288 => ?_)
              clear hM286
              refine s_alloc (e := 42) hM288 (.inl rfl) rfl rfl (V := fun g => .slice (some ⟨g, 0, none⟩) 1 1) (ev_bsg (C := D) hM288 rfl rfl (fun w => by rw [HD.out]; kernel_rfl)) (fun g290 a296 w291 hM295 KB294_ hb292 hg293 => ?_)
              have KB294 := hide KB294_
              clear hM288 KB294_
              clear hg293
              have HB297 := hide (below_then HB186.out hb292)
              have HB298 := hide (below_then HB187.out hb292)
              have HB299 := hide (below_then HB188.out hb292)
              have HB300 := hide (below_then HB189.out hb292)
              have HB301 := hide (below_then HB191.out hb292)
              have HB302 := hide (below_then HB258.out hb292)
              clear hb292 HB186 HB187 HB188 HB189 HB191 HB258
              have HB304 : Hid (Below w291.heap.size w291 w291) := Below.refl _ _
              obtain ⟨i0, hi, hz0, hz1, hz2⟩ := info_parts info_msg3
              have hLI := (HLI.out.below HB298.out)
              have hTT := (HT.out.below HB298.out)
              have hII := (HI.out.below HB300.out)
              have hK7 := (KB179.out.on HB301.out)
              refine s_append hM295 (.inl rfl) rfl rfl rfl w21.heap.size 42 i0 (.agg (msC zM zV)) 18 256 Try.underlying23 hi hz0 hz1 hz2 rfl (by decide) ys.length (flat ys) rfl hLI.own ⟨g290, 0, none⟩ 1 1 D.toList rfl (by rw [HD.out]; rfl) (news_row (KB294.out.on HB304.out)) (one_msg HD.out) (by have := HLN.out; unfold maxLen; omega) (by have := HLN.out; omega) HB297.out.size (fun V2 a306 w307 hM305 ho hgr hat => ?_)
              rw [HD.out] at ho
              have HT_ := hide (hTT.grow hLI hgr)
              have HLI_ := hide ((hLI.push hII hgr ho hat hTT.lt (fun b e => by have e : b = g175 := e; rw [e]; exact hK7.lt)).away (K' := K0) (fun b e => (e : False).elim))
              have HLN2 : Hid ((ys ++ [(x, u)]).length = j + 1 ∧ L.length ≤ j + 1 ∧ j + 1 ≤ 12) := ⟨by rw [List.length_append, HLN.out.1]; rfl, by have := HLN.out.2.1; omega, by omega⟩
              have HB308 := hide HT_.out.tw.below
              clear hTT hLI hII hK7 ho hgr hat HT HLI HI hM295 HB297 HB298 HB299 HB300 HB301 HB302 HB304
              have HT := HT_
              have HLI := HLI_
              clear HT_ HLI_
              have HB310 : Hid (Below w307.heap.size w307 w307) := Below.refl _ _
              refine s_val hM305 (.inl rfl) rfl rfl (ev_move (.inr rfl) rfl) (fun a312 hM311 => ?_)
              clear hM305
              refine seg_nil (hK285 _ _ ?_)
              clear hK285 K285 QK285
              have hM313 := hM311.cut5 (t1 := 1) (t2 := 3) (t3 := 4) (t4 := 5) (t5 := 6) rfl rfl rfl rfl rfl
              clear hM311
              refine inb_n ?_
              refine hK152 _ _ ?_
              refine region_last fun K314 QK314 hK314 => ?_
              refine s_val hM313 (.inl rfl) rfl rfl (ev_move (.inl rfl) rfl) (fun a316 hM315 => ?_)
              clear hM313
              refine s_val hM315 (.inl rfl) rfl rfl (ev_bin rfl rfl rfl g_int (b_add (r := ((j + 1 : Nat) : Int)) (by omega) (by omega))) (fun a318 hM317 => ?_)
              clear hM315
              refine s_val hM317 (.inl rfl) rfl rfl (ev_move (.inr rfl) rfl) (fun a320 hM319 => ?_)
              clear hM317
              refine seg_nil (hK314 _ _ ?_)
              clear hK314 K314 QK314
              have hM321 := hM319.cut5 (t1 := 1) (t2 := 3) (t3 := 4) (t4 := 5) (t5 := 6) rfl rfl rfl rfl rfl
              clear hM319
              have hM322 := hM321.cut5 (t1 := 6) (t2 := 1) (t3 := 3) (t4 := 4) (t5 := 5) rfl rfl rfl rfl rfl
              clear hM321
              exact ⟨s.l.n - (j + 1), by omega, j + 1, V2, (ys ++ [(x, u)]), G1, G2, L, rfl, hM322, HB308, (hide (HT.out.below HB310.out)), (hide (HLI.out.below HB310.out)), HLN2⟩
            case true =>
              refine region_then fun K323 QK323 hK323 => ?_
              refine s_val hM192 (.inl rfl) rfl rfl (ev_move (.inl rfl) rfl) (fun a325 hM324 => ?_)
              clear hM192
              refine s_val hM324 (.inl rfl) rfl rfl (ev_fldw (m := 3) rfl rfl (fun w => by simp [go_sem])) (fun a327 hM326 => ?_)
              clear hM324
              refine s_val hM326 (.inl rfl) rfl rfl (ev_load1 (v := .slice (s.pu.A) (s.pu.n) (s.pu.c)) rfl rfl ((KB33.out.on HB186.out).rng.at_ (m := 3) (by rw [HC.out]; rfl)) (isAgg_no Try.underlying24 rfl)) (fun a329 hM328 => ?_)
              clear hM326
              refine s_val hM328 (.inl rfl) rfl rfl (ev_len rfl rfl Try.underlying24) (fun a331 hM330 => ?_)
              clear hM328
              refine s_val hM330 (.inl rfl) rfl rfl (ev_bin rfl rfl rfl g_int (b_lss (b := true) (by rw [decide_eq_true_eq]; omega))) (fun a333 hM332 => ?_)
              clear hM330
              refine s_val hM332 (.inl rfl) rfl rfl (ev_move (.inl rfl) rfl) (fun a335 hM334 => ?_)
              clear hM332
              refine s_val hM334 (.inr ⟨_, _, _, rfl, rfl, rfl⟩) rfl rfl (ev_fldw (m := 3) rfl rfl (fun w => by simp [go_sem])) (fun a337 hM336 => ?_)
              clear hM334
              refine s_val hM336 (.inr ⟨_, _, _, rfl, rfl, rfl⟩) rfl rfl (ev_load1 (v := .slice (s.pu.A) (s.pu.n) (s.pu.c)) rfl rfl ((KB33.out.on HB186.out).rng.at_ (m := 3) (by rw [HC.out]; rfl)) (isAgg_no Try.underlying24 rfl)) (fun a339 hM338 => ?_)
              clear hM336
              refine s_val hM338 (.inr ⟨_, _, _, rfl, rfl, rfl⟩) rfl rfl (ev_move (.inl rfl) rfl) (fun a341 hM340 => ?_)
              clear hM338
              refine s_val hM340 (.inr ⟨_, _, _, rfl, rfl, rfl⟩) rfl rfl (ev_idx (b := bp) (k := j) (sz := 1) (p := offp + j) rfl (by rw [← hAp]; rfl) rfl Try.underlying24 (by kernel_rfl) hpu (by omega)) (fun a343 hM342 => ?_)
              clear hM340
              refine s_val hM342 (.inr ⟨_, _, _, rfl, rfl, rfl⟩) rfl rfl (ev_load1 (v := .bool true) rfl rfl ((HCP.out.below HB258.out)).2 (isAgg_no Try.underlying4 rfl)) (fun a345 hM344 => ?_)
              clear hM342
              refine s_val hM344 (.inl rfl) rfl rfl (ev_pick rfl rfl rfl) (fun a347 hM346 => ?_)
              clear hM344
              refine seg_nil (hK323 _ _ ?_)
              clear hK323 K323 QK323
              have hM348 := hM346.cut7 (t1 := 1) (t2 := 3) (t3 := 4) (t4 := 5) (t5 := 6) (t6 := 7) (t7 := 49) rfl rfl rfl rfl rfl rfl rfl
              clear hM346
              refine wp_cond_true (hM348.ev (t := 49) rfl) ?_
              refine region_then fun K349 QK349 hK349 => ?_
              refine s_val hM348 (.inl rfl) rfl rfl (ev_move (.inl rfl) rfl) (fun a351 hM350 => ?_)
              clear hM348
              refine s_val hM350 (.inl rfl) rfl rfl (ev_move (.inl rfl) rfl) (fun a353 hM352 => ?_)
              clear hM350
              refine s_val hM352 (.inl rfl) rfl rfl (ev_loadm rfl rfl (KB179.out.on HB191.out).rng Try.underlying42 rfl (by rw [HD.out]; exact Try.infoMsg)) (fun a355 hM354 => ?_)
              clear hM352
              have HL1 : Hid (L.length ≤ 65535) := by have := HLN.out; rw [Hid]; omega
              refine s_call hM354 (.inl rfl) rfl rfl (f := 18) (args := #[.pointer (some ⟨g, 0, none⟩), .pointer (some ⟨g56, 0, none⟩), .agg D]) (ev_call hM354 rfl rfl rfl (fun w => by simp [go_sem]) _) (law8_put x u _ (hide (HT.out.below HB187.out)) HL1 (hide ((HI.out.below HB189.out)).s) (hide ((HI.out.below HB189.out)).k) (hide ((HI.out.below HB189.out)).z) HD) (fun e w356 hp => ?_)
              obtain ⟨D2, u2, G1b, G2b, rfl, HD2, hI, hT, hG, hC⟩ := hp
              have HN7_ : Hid (¬ BkG G1b G2b g175) := fun h => (hG.out _ h).elim HN7.out (fun h => by have h1 := ((KB179.out.on HB191.out)).lt; omega)
              have HT_ := hide (hT.out)
              have HLI_ := hide (((HLI.out.below HB187.out)).chg hC.out hG.out)
              have HI_ := hide (hI.out.to (F' := VF (K1 g175) G1b G2b V) (fun b h => .inl (by
                rcases h with h | h | h
                · exact Or.inl h
                · exact Or.inr (((HLI.out.below HB187.out)).lt h)
                · exact Or.inr (by have h : b = g175 := h; rw [h]; exact ((KB179.out.on HB191.out)).lt))))
              have KB360 := hide (((KB179.out.on HB191.out)).chg hC.out HN7.out)
              have HB361 := hide (HT_.out.tw.below)
              clear HB186 HB187 HB188 HB189 HB191 HB258 KB179 HT HLI HI hT hI hG hC HN7 HL1
              have HT := HT_
              clear HT_
              have HLI := HLI_
              clear HLI_
              have HI := HI_
              clear HI_
              have HB363 : Hid (Below w356.heap.size w356 w356) := Below.refl _ _
              have HN7 := HN7_
              clear HN7_
              refine ⟨_, rfl, fun a359 hM358 => ?_⟩
              clear hM354
              refine s_val hM358 (.inl rfl) rfl rfl (ev_move (.inl rfl) rfl) (fun a365 hM364 => ?_)
              clear hM358
              refine s_val hM364 (.inl rfl) rfl rfl (ev_ext (v := .agg D2) rfl rfl rfl) (fun a367 hM366 => ?_)
              clear hM364
              refine s_val hM366 (.inl rfl) rfl rfl (ev_ext (v := .bool true) rfl rfl rfl) (fun a369 hM368 => ?_)
              clear hM366
              refine s_new hM368 rfl rfl rfl rfl alloc_msg rfl rfl rfl rfl (by rw [HD2.out]; exact Try.infoMsg) (by rw [HD2.out]; rfl) (one_msg HD2.out) (fun g370 a376 w371 hM375 KB374_ hb372 hg373 => ?_)
              have KB374 := hide KB374_
              clear hM368 KB374_
              clear hg373
              have HB377 := hide (below_then HB361.out hb372)
              have HB378 := hide (below_then HB363.out hb372)
              clear hb372 HB361 HB363
              have HB380 : Hid (Below w371.heap.size w371 w371) := Below.refl _ _
              refine s_val hM375 (.inl rfl) rfl rfl (ev_move (.inr rfl) rfl) (fun a382 hM381 => ?_)
              clear hM375
              refine seg_nil (hK349 _ _ ?_)
              clear hK349 K349 QK349
              have hM383 := hM381.cut8 (t1 := 1) (t2 := 3) (t3 := 4) (t4 := 5) (t5 := 6) (t6 := 7) (t7 := 8) (t8 := 9) rfl rfl rfl rfl rfl rfl rfl rfl
              clear hM381
              refine wp_seq_k fun K384 hK384 => ?_
              refine region_then fun K385 QK385 hK385 => ?_
              refine s_val hM383 (.inl rfl) rfl rfl (ev_move (.inl rfl) rfl) (fun a387 hM386 => ?_)
              clear hM383
              refine s_val hM386 (.inl rfl) rfl rfl (ev_not rfl rfl rfl) (fun a389 hM388 => ?_)
              clear hM386
              refine seg_nil (hK385 _ _ ?_)
              clear hK385 K385 QK385
              have hM390 := hM388.cut8 (t1 := 1) (t2 := 3) (t3 := 4) (t4 := 5) (t5 := 6) (t6 := 7) (t7 := 8) (t8 := 58) rfl rfl rfl rfl rfl rfl rfl rfl
              clear hM388
              refine wp_cond_false (hM390.ev (t := 58) rfl) ?_
              refine wp_skip ?_
              refine hK384 _ _ ?_
              refine region_last fun K391 QK391 hK391 => ?_
              refine s_val hM390 (.inl rfl) rfl rfl (ev_loadm rfl rfl (KB374.out.on HB380.out).rng Try.underlying42 rfl (by rw [HD2.out]; exact Try.infoMsg)) (fun a393 hM392 => ?_)
              clear hM390
              refine s_putrow hM392 rfl rfl rfl rfl rfl (KB360.out.on HB378.out) (by rw [HD2.out]; exact Try.infoMsg) (by rw [HD.out, HD2.out]; rfl) (one_msg HD2.out) (fun w394 kd hg => ?_)
              have HT_ := hide (((HT.out.below HB378.out)).store hg HN7.out H07.out)
              have HLI_ := hide (((HLI.out.below HB378.out)).store hg rfl)
              have HI_ := hide (((HI.out.below HB378.out)).chg ((grown_chg hg).mono (fun b e => .inl (Or.inr (Or.inr e)))))
              have KB395 := hide (kd)
              have HB396 := hide (HT_.out.tw.below)
              clear HB377 HB378 HB380 KB360 HT HLI HI hg kd
              have HT := HT_
              clear HT_
              have HLI := HLI_
              clear HLI_
              have HI := HI_
              clear HI_
              have HB398 : Hid (Below w394.heap.size w394 w394) := Below.refl _ _
              refine seg_nil (hK391 _ _ ?_)
              clear hK391 K391 QK391
              have hM399 := hM392.cut6 (t1 := 1) (t2 := 3) (t3 := 4) (t4 := 5) (t5 := 6) (t6 := 7) rfl rfl rfl rfl rfl rfl
              clear hM392
              refine hK193 _ _ ?_
              refine region_last fun K400 QK400 hK400 => ?_
              refine s_val hM399 (.inl rfl) rfl rfl (ev_move (.inl rfl) rfl) (fun a402 hM401 => ?_)
              clear hM399
              refine s_val hM401 (.inl rfl) rfl rfl (ev_loadm rfl rfl (KB395.out.on HB398.out).rng Try.underlying42 rfl (by rw [HD2.out]; exact Try.infoMsg)) (fun a404 hM403 => ?_)
              clear hM401
              refine s_alloc (e := 42) hM403 (.inl rfl) rfl rfl (V := fun g => .slice (some ⟨g, 0, none⟩) 1 1) (ev_bsg (C := D2) hM403 rfl rfl (fun w => by rw [HD2.out]; kernel_rfl)) (fun g405 a411 w406 hM410 KB409_ hb407 hg408 => ?_)
              have KB409 := hide KB409_
              clear hM403 KB409_
              clear hg408
              have HB412 := hide (below_then HB396.out hb407)
              have HB413 := hide (below_then HB398.out hb407)
              clear hb407 HB396 HB398
              have HB415 : Hid (Below w406.heap.size w406 w406) := Below.refl _ _
              obtain ⟨i0, hi, hz0, hz1, hz2⟩ := info_parts info_msg3
              have hLI := (HLI.out.below HB413.out)
              have hTT := (HT.out.below HB413.out)
              have hII := (HI.out.below HB413.out)
              have hK7 := (KB395.out.on HB413.out)
              refine s_append hM410 (.inl rfl) rfl rfl rfl w21.heap.size 42 i0 (.agg (msC zM zV)) 18 256 Try.underlying23 hi hz0 hz1 hz2 rfl (by decide) ys.length (flat ys) rfl hLI.own ⟨g405, 0, none⟩ 1 1 D2.toList rfl (by rw [HD2.out]; rfl) (news_row (KB409.out.on HB415.out)) (one_msg HD2.out) (by have := HLN.out; unfold maxLen; omega) (by have := HLN.out; omega) HB412.out.size (fun V2 a417 w418 hM416 ho hgr hat => ?_)
              rw [HD2.out] at ho
              have HT_ := hide (hTT.grow hLI hgr)
              have HLI_ := hide ((hLI.push hII hgr ho hat hTT.lt (fun b e => by have e : b = g175 := e; rw [e]; exact hK7.lt)).away (K' := K0) (fun b e => (e : False).elim))
              have HLN2 : Hid ((ys ++ [((putM L x), u2)]).length = j + 1 ∧ (putLs L x).length ≤ j + 1 ∧ j + 1 ≤ 12) := ⟨by rw [List.length_append, HLN.out.1]; rfl, by have := HLN.out.2.1; have h2 := putLs_len L x; omega, by omega⟩
              have HB419 := hide HT_.out.tw.below
              clear hTT hLI hII hK7 ho hgr hat HT HLI HI hM410 HB412 HB413 HB415
              have HT := HT_
              have HLI := HLI_
              clear HT_ HLI_
              have HB421 : Hid (Below w418.heap.size w418 w418) := Below.refl _ _
              refine s_val hM416 (.inl rfl) rfl rfl (ev_move (.inr rfl) rfl) (fun a423 hM422 => ?_)
              clear hM416
              refine seg_nil (hK400 _ _ ?_)
              clear hK400 K400 QK400
              have hM424 := hM422.cut5 (t1 := 1) (t2 := 3) (t3 := 4) (t4 := 5) (t5 := 6) rfl rfl rfl rfl rfl
              clear hM422
              refine inb_n ?_
              refine hK152 _ _ ?_
              refine region_last fun K425 QK425 hK425 => ?_
              refine s_val hM424 (.inl rfl) rfl rfl (ev_move (.inl rfl) rfl) (fun a427 hM426 => ?_)
              clear hM424
              refine s_val hM426 (.inl rfl) rfl rfl (ev_bin rfl rfl rfl g_int (b_add (r := ((j + 1 : Nat) : Int)) (by omega) (by omega))) (fun a429 hM428 => ?_)
              clear hM426
              refine s_val hM428 (.inl rfl) rfl rfl (ev_move (.inr rfl) rfl) (fun a431 hM430 => ?_)
              clear hM428
              refine seg_nil (hK425 _ _ ?_)
              clear hK425 K425 QK425
              have hM432 := hM430.cut5 (t1 := 1) (t2 := 3) (t3 := 4) (t4 := 5) (t5 := 6) rfl rfl rfl rfl rfl
              clear hM430
              have hM433 := hM432.cut5 (t1 := 6) (t2 := 1) (t3 := 3) (t4 := 4) (t5 := 5) rfl rfl rfl rfl rfl
              clear hM432
              exact ⟨s.l.n - (j + 1), by omega, j + 1, V2, (ys ++ [((putM L x), u2)]), G1b, G2b, (putLs L x), rfl, hM433, HB419, (hide (HT.out.below HB421.out)), (hide (HLI.out.below HB421.out)), HLN2⟩
    ·
      clear HB65 HB66 HB68 hM81 HT HLI HLN
      rintro a436 w434 ⟨j, V, ys, G1, G2, L, hM435, HB437, HT, HLI, HLN⟩
      have HB439 : Hid (Below w434.heap.size w434 w434) := Below.refl _ _
      refine hK76 _ _ ?_
      refine wp_seq_k fun K440 hK440 => ?_
      have HLP : Hid (([] : List (Int × Int)).length ≤ 0) := Nat.le_refl _
      refine region_then fun K441 QK441 hK441 => ?_
      refine s_val hM435 (.inl rfl) rfl rfl (ev_move (.inr rfl) rfl) (fun a443 hM442 => ?_)
      clear hM435
      refine seg_nil (hK441 _ _ ?_)
      clear hK441 K441 QK441
      have hM444 := hM442.cut5 (t1 := 1) (t2 := 3) (t3 := 4) (t4 := 5) (t5 := 10) rfl rfl rfl rfl rfl
      clear hM442
      have hM445 := hM444.cut5 (t1 := 10) (t2 := 1) (t3 := 3) (t4 := 4) (t5 := 5) rfl rfl rfl rfl rfl
      clear hM444
      refine wp_join (fun a w' => ∃ (k : Nat) (G2 : Nat → Prop) (ps : List (Int × Int)), Frm a 169 [(1, .pointer (some ⟨g4, 0, none⟩)), (3, .pointer (some ⟨g, 0, none⟩)), (4, .pointer (some ⟨g56, 0, none⟩)), (5, V)] ∧ Hid (Below w21.heap.size w21 w') ∧ Hid (TwK w21 G1 G2 w' g g56 L (sgP ps) L ps) ∧ Hid (LiS w21.heap.size K0 G1 G2 w' V ys) ∧ Hid (ps.length ≤ k)) ?_ ?_
      ·
        refine wp_block ?_
        refine wp_loop_ghost (fun m a w' => ∃ (k : Nat) (G2 : Nat → Prop) (ps : List (Int × Int)), m = s.wo.n - k ∧ Frm a 169 [(10, .int .i64 (k : Int)), (1, .pointer (some ⟨g4, 0, none⟩)), (3, .pointer (some ⟨g, 0, none⟩)), (4, .pointer (some ⟨g56, 0, none⟩)), (5, V)] ∧ Hid (Below w21.heap.size w21 w') ∧ Hid (TwK w21 G1 G2 w' g g56 L (sgP ps) L ps) ∧ Hid (LiS w21.heap.size K0 G1 G2 w' V ys) ∧ Hid (ps.length ≤ k)) s.wo.n ⟨0, G2, [],  by omega, hM445, HB437, (hide (HT.out.below HB439.out)), (hide (HLI.out.below HB439.out)), HLP⟩ ?_
        clear HB437 HB439 hM445 HT HLI HLP
        rintro m450 a447 w446 ⟨k, G2, ps, rfl, hM448, HB449, HT, HLI, HLP⟩
        have HB452 : Hid (Below w446.heap.size w446 w446) := Below.refl _ _
        refine wp_seq_k fun K453 hK453 => ?_
        by_cases hlt : k < s.wo.n
        case neg =>
          refine region_then fun K454 QK454 hK454 => ?_
          refine s_val hM448 (.inl rfl) rfl rfl (ev_move (.inl rfl) rfl) (fun a456 hM455 => ?_)
          clear hM448
          refine s_val hM455 (.inl rfl) rfl rfl (ev_fldw (m := 4) rfl rfl (fun w => by simp [go_sem])) (fun a458 hM457 => ?_)
          clear hM455
          refine s_val hM457 (.inl rfl) rfl rfl (ev_load1 (v := .slice (s.wo.A) (s.wo.n) (s.wo.c)) rfl rfl ((KB33.out.on HB449.out).rng.at_ (m := 4) (by rw [HC.out]; rfl)) (isAgg_no Try.underlying22 rfl)) (fun a460 hM459 => ?_)
          clear hM457
          refine s_val hM459 (.inl rfl) rfl rfl (ev_len rfl rfl Try.underlying22) (fun a462 hM461 => ?_)
          clear hM459
          refine s_val hM461 (.inl rfl) rfl rfl (ev_bin rfl rfl rfl g_int (b_lss (b := false) (by rw [decide_eq_false_iff_not]; omega))) (fun a464 hM463 => ?_)
          clear hM461
          refine s_val hM463 (.inl rfl) rfl rfl (ev_move (.inl rfl) rfl) (fun a466 hM465 => ?_)
          clear hM463
          refine s_skip hM465 rfl rfl rfl rfl rfl rfl (fun a468 hM467 => ?_)
          clear hM465
          refine s_skip hM467 rfl rfl rfl rfl rfl rfl (fun a470 hM469 => ?_)
          clear hM467
          refine s_skip hM469 rfl rfl rfl rfl rfl rfl (fun a472 hM471 => ?_)
          clear hM469
          refine s_skip hM471 rfl rfl rfl rfl rfl rfl (fun a474 hM473 => ?_)
          clear hM471
          refine s_skip hM473 rfl rfl rfl rfl rfl rfl (fun a476 hM475 => ?_)
          clear hM473
          refine s_val hM475 (.inl rfl) rfl rfl (ev_pick rfl rfl rfl) (fun a478 hM477 => ?_)
          clear hM475
          refine seg_nil (hK454 _ _ ?_)
          clear hK454 K454 QK454
          have hM479 := hM477.cut6 (t1 := 1) (t2 := 3) (t3 := 4) (t4 := 5) (t5 := 10) (t6 := 75) rfl rfl rfl rfl rfl rfl
          clear hM477
          refine wp_cond_false (hM479.ev (t := 75) rfl) ?_
          refine wp_exit ?_
          repeat (with_reducible refine th_e ?_)
          refine inb_e ?_
          have hM480 := hM479.cut4 (t1 := 1) (t2 := 3) (t3 := 4) (t4 := 5) rfl rfl rfl rfl
          clear hM479
          exact jq_n ⟨k, G2, ps, hM480, HB449, (hide (HT.out.below HB452.out)), (hide (HLI.out.below HB452.out)), HLP⟩
        case pos =>
          by_cases hlt2 : k < s.wi.n
          case neg =>
            refine region_then fun K481 QK481 hK481 => ?_
            refine s_val hM448 (.inl rfl) rfl rfl (ev_move (.inl rfl) rfl) (fun a483 hM482 => ?_)
            clear hM448
            refine s_val hM482 (.inl rfl) rfl rfl (ev_fldw (m := 4) rfl rfl (fun w => by simp [go_sem])) (fun a485 hM484 => ?_)
            clear hM482
            refine s_val hM484 (.inl rfl) rfl rfl (ev_load1 (v := .slice (s.wo.A) (s.wo.n) (s.wo.c)) rfl rfl ((KB33.out.on HB449.out).rng.at_ (m := 4) (by rw [HC.out]; rfl)) (isAgg_no Try.underlying22 rfl)) (fun a487 hM486 => ?_)
            clear hM484
            refine s_val hM486 (.inl rfl) rfl rfl (ev_len rfl rfl Try.underlying22) (fun a489 hM488 => ?_)
            clear hM486
            refine s_val hM488 (.inl rfl) rfl rfl (ev_bin rfl rfl rfl g_int (b_lss (b := true) (by rw [decide_eq_true_eq]; omega))) (fun a491 hM490 => ?_)
            clear hM488
            refine s_val hM490 (.inl rfl) rfl rfl (ev_move (.inl rfl) rfl) (fun a493 hM492 => ?_)
            clear hM490
            refine s_val hM492 (.inr ⟨_, _, _, rfl, rfl, rfl⟩) rfl rfl (ev_move (.inl rfl) rfl) (fun a495 hM494 => ?_)
            clear hM492
            refine s_val hM494 (.inr ⟨_, _, _, rfl, rfl, rfl⟩) rfl rfl (ev_fldw (m := 5) rfl rfl (fun w => by simp [go_sem])) (fun a497 hM496 => ?_)
            clear hM494
            refine s_val hM496 (.inr ⟨_, _, _, rfl, rfl, rfl⟩) rfl rfl (ev_load1 (v := .slice (s.wi.A) (s.wi.n) (s.wi.c)) rfl rfl ((KB33.out.on HB449.out).rng.at_ (m := 5) (by rw [HC.out]; rfl)) (isAgg_no Try.underlying22 rfl)) (fun a499 hM498 => ?_)
            clear hM496
            refine s_val hM498 (.inr ⟨_, _, _, rfl, rfl, rfl⟩) rfl rfl (ev_len rfl rfl Try.underlying22) (fun a501 hM500 => ?_)
            clear hM498
            refine s_val hM500 (.inr ⟨_, _, _, rfl, rfl, rfl⟩) rfl rfl (ev_bin rfl rfl rfl g_int (b_lss (b := false) (by rw [decide_eq_false_iff_not]; omega))) (fun a503 hM502 => ?_)
            clear hM500
            refine s_val hM502 (.inl rfl) rfl rfl (ev_pick rfl rfl rfl) (fun a505 hM504 => ?_)
            clear hM502
            refine seg_nil (hK481 _ _ ?_)
            clear hK481 K481 QK481
            have hM506 := hM504.cut6 (t1 := 1) (t2 := 3) (t3 := 4) (t4 := 5) (t5 := 10) (t6 := 75) rfl rfl rfl rfl rfl rfl
            clear hM504
            refine wp_cond_false (hM506.ev (t := 75) rfl) ?_
            refine wp_exit ?_
            repeat (with_reducible refine th_e ?_)
            refine inb_e ?_
            have hM507 := hM506.cut4 (t1 := 1) (t2 := 3) (t3 := 4) (t4 := 5) rfl rfl rfl rfl
            clear hM506
            exact jq_n ⟨k, G2, ps, hM507, HB449, (hide (HT.out.below HB452.out)), (hide (HLI.out.below HB452.out)), HLP⟩
          case pos =>
            refine region_then fun K508 QK508 hK508 => ?_
            refine s_val hM448 (.inl rfl) rfl rfl (ev_move (.inl rfl) rfl) (fun a510 hM509 => ?_)
            clear hM448
            refine s_val hM509 (.inl rfl) rfl rfl (ev_fldw (m := 4) rfl rfl (fun w => by simp [go_sem])) (fun a512 hM511 => ?_)
            clear hM509
            refine s_val hM511 (.inl rfl) rfl rfl (ev_load1 (v := .slice (s.wo.A) (s.wo.n) (s.wo.c)) rfl rfl ((KB33.out.on HB449.out).rng.at_ (m := 4) (by rw [HC.out]; rfl)) (isAgg_no Try.underlying22 rfl)) (fun a514 hM513 => ?_)
            clear hM511
            refine s_val hM513 (.inl rfl) rfl rfl (ev_len rfl rfl Try.underlying22) (fun a516 hM515 => ?_)
            clear hM513
            refine s_val hM515 (.inl rfl) rfl rfl (ev_bin rfl rfl rfl g_int (b_lss (b := true) (by rw [decide_eq_true_eq]; omega))) (fun a518 hM517 => ?_)
            clear hM515
            refine s_val hM517 (.inl rfl) rfl rfl (ev_move (.inl rfl) rfl) (fun a520 hM519 => ?_)
            clear hM517
            refine s_val hM519 (.inr ⟨_, _, _, rfl, rfl, rfl⟩) rfl rfl (ev_move (.inl rfl) rfl) (fun a522 hM521 => ?_)
            clear hM519
            refine s_val hM521 (.inr ⟨_, _, _, rfl, rfl, rfl⟩) rfl rfl (ev_fldw (m := 5) rfl rfl (fun w => by simp [go_sem])) (fun a524 hM523 => ?_)
            clear hM521
            refine s_val hM523 (.inr ⟨_, _, _, rfl, rfl, rfl⟩) rfl rfl (ev_load1 (v := .slice (s.wi.A) (s.wi.n) (s.wi.c)) rfl rfl ((KB33.out.on HB449.out).rng.at_ (m := 5) (by rw [HC.out]; rfl)) (isAgg_no Try.underlying22 rfl)) (fun a526 hM525 => ?_)
            clear hM523
            refine s_val hM525 (.inr ⟨_, _, _, rfl, rfl, rfl⟩) rfl rfl (ev_len rfl rfl Try.underlying22) (fun a528 hM527 => ?_)
            clear hM525
            refine s_val hM527 (.inr ⟨_, _, _, rfl, rfl, rfl⟩) rfl rfl (ev_bin rfl rfl rfl g_int (b_lss (b := true) (by rw [decide_eq_true_eq]; omega))) (fun a530 hM529 => ?_)
            clear hM527
            refine s_val hM529 (.inl rfl) rfl rfl (ev_pick rfl rfl rfl) (fun a532 hM531 => ?_)
            clear hM529
            refine seg_nil (hK508 _ _ ?_)
            clear hK508 K508 QK508
            have hM533 := hM531.cut6 (t1 := 1) (t2 := 3) (t3 := 4) (t4 := 5) (t5 := 10) (t6 := 75) rfl rfl rfl rfl rfl rfl
            clear hM531
            refine wp_cond_true (hM533.ev (t := 75) rfl) ?_
            refine wp_skip ?_
            refine hK453 _ _ ?_
            refine wp_seq_k fun K534 hK534 => ?_
            refine wp_block ?_
            obtain ⟨b1, o1, a1, hA1, HU1, hc1, -⟩ := HS.out.wo.int hlt
            obtain ⟨b2, o2, a2, hA2, HU2, hc2, -⟩ := HS.out.wi.int hlt2
            have HC1 := hide (CellAt.of hc1)
            have HC2 := hide (CellAt.of hc2)
            clear hc1 hc2
            obtain ⟨qs, HQS⟩ : ∃ q, Hid (sgR L.length a1 a2 = q) := ⟨_, rfl⟩
            have HPS : Hid (ps.length ≤ 1048576) := by have h1 := HLP.out; have h2 := HLT.out.wo; rw [Hid]; omega
            have HLP2 : Hid ((psUp qs ps (a1, a2)).length ≤ k + 1) := by
              have h1 := HLP.out
              rw [Hid]
              unfold psUp
              split
              · rw [List.length_append]; exact Nat.succ_le_succ h1
              · omega
            refine h_open_at 26 rfl (by kernel_rfl) HB449.out fun K535 w536 hb537 hS538 hK535 => ?_
            have HB539 := hide (below_then HB449.out hb537)
            have HB540 := hide (below_then HB452.out hb537)
            clear hb537 HB449 HB452
            refine h_val 0 rfl (by kernel_rfl) (by kernel_rfl) (by kernel_rfl) hM533 (.inl rfl) rfl rfl hS538 (fun w' hr => (ev_move (.inl rfl) rfl)) (fun a542 hM541 => ?_)
            clear hM533
            refine h_val 1 rfl (by kernel_rfl) (by kernel_rfl) (by kernel_rfl) hM541 (.inl rfl) rfl rfl hS538 (fun w' hr => (ev_fldw (m := 4) rfl rfl (fun w => by simp [go_sem]))) (fun a544 hM543 => ?_)
            clear hM541
            refine h_val 2 rfl (by kernel_rfl) (by kernel_rfl) (by kernel_rfl) hM543 (.inl rfl) rfl rfl hS538 (fun w' hr => (ev_load1 (v := .slice (s.wo.A) (s.wo.n) (s.wo.c)) rfl rfl ((KB33.out.on hr).rng.at_ (m := 4) (by rw [HC.out]; rfl)) (isAgg_no Try.underlying22 rfl))) (fun a546 hM545 => ?_)
            clear hM543
            refine h_val 3 rfl (by kernel_rfl) (by kernel_rfl) (by kernel_rfl) hM545 (.inl rfl) rfl rfl hS538 (fun w' hr => (ev_move (.inl rfl) rfl)) (fun a548 hM547 => ?_)
            clear hM545
            refine h_val 4 rfl (by kernel_rfl) (by kernel_rfl) (by kernel_rfl) hM547 (.inl rfl) rfl rfl hS538 (fun w' hr => (ev_idx (b := b1) (k := k) (sz := 1) (p := o1 + k) rfl (by rw [← hA1]; rfl) rfl Try.underlying22 (by kernel_rfl) hlt (by omega))) (fun a550 hM549 => ?_)
            clear hM547
            refine h_val 5 rfl (by kernel_rfl) (by kernel_rfl) (by kernel_rfl) hM549 (.inl rfl) rfl rfl hS538 (fun w' hr => (ev_load1 (v := .int .i64 a1) rfl rfl ((HC1.out.below hr)).2 (isAgg_no Try.underlying3 rfl))) (fun a552 hM551 => ?_)
            clear hM549
            refine h_val 6 rfl (by kernel_rfl) (by kernel_rfl) (by kernel_rfl) hM551 (.inl rfl) rfl rfl hS538 (fun w' hr => (ev_fldw (m := 5) rfl rfl (fun w => by simp [go_sem]))) (fun a554 hM553 => ?_)
            clear hM551
            refine h_val 7 rfl (by kernel_rfl) (by kernel_rfl) (by kernel_rfl) hM553 (.inl rfl) rfl rfl hS538 (fun w' hr => (ev_load1 (v := .slice (s.wi.A) (s.wi.n) (s.wi.c)) rfl rfl ((KB33.out.on hr).rng.at_ (m := 5) (by rw [HC.out]; rfl)) (isAgg_no Try.underlying22 rfl))) (fun a556 hM555 => ?_)
            clear hM553
            refine h_val 8 rfl (by kernel_rfl) (by kernel_rfl) (by kernel_rfl) hM555 (.inl rfl) rfl rfl hS538 (fun w' hr => (ev_move (.inl rfl) rfl)) (fun a558 hM557 => ?_)
            clear hM555
            refine h_val 9 rfl (by kernel_rfl) (by kernel_rfl) (by kernel_rfl) hM557 (.inl rfl) rfl rfl hS538 (fun w' hr => (ev_idx (b := b2) (k := k) (sz := 1) (p := o2 + k) rfl (by rw [← hA2]; rfl) rfl Try.underlying22 (by kernel_rfl) hlt2 (by omega))) (fun a560 hM559 => ?_)
            clear hM557
            refine h_val 10 rfl (by kernel_rfl) (by kernel_rfl) (by kernel_rfl) hM559 (.inl rfl) rfl rfl hS538 (fun w' hr => (ev_load1 (v := .int .i64 a2) rfl rfl ((HC2.out.below hr)).2 (isAgg_no Try.underlying3 rfl))) (fun a562 hM561 => ?_)
            clear hM559
            refine h_val 13 rfl (by kernel_rfl) (by kernel_rfl) (by kernel_rfl) hM561 (.inl rfl) rfl rfl hS538 (fun w' hr => (ev_move (.inl rfl) rfl)) (fun a564 hM563 => ?_)
            clear hM561
            refine h_val 14 rfl (by kernel_rfl) (by kernel_rfl) (by kernel_rfl) hM563 (.inl rfl) rfl rfl hS538 (fun w' hr => (ev_fldw (m := 4) rfl rfl (fun w => by simp [go_sem]))) (fun a566 hM565 => ?_)
            clear hM563
            refine h_val 15 rfl (by kernel_rfl) (by kernel_rfl) (by kernel_rfl) hM565 (.inl rfl) rfl rfl hS538 (fun w' hr => (ev_load1 (v := .slice (s.wo.A) (s.wo.n) (s.wo.c)) rfl rfl ((KB33.out.on hr).rng.at_ (m := 4) (by rw [HC.out]; rfl)) (isAgg_no Try.underlying22 rfl))) (fun a568 hM567 => ?_)
            clear hM565
            refine h_val 16 rfl (by kernel_rfl) (by kernel_rfl) (by kernel_rfl) hM567 (.inl rfl) rfl rfl hS538 (fun w' hr => (ev_move (.inl rfl) rfl)) (fun a570 hM569 => ?_)
            clear hM567
            refine h_val 17 rfl (by kernel_rfl) (by kernel_rfl) (by kernel_rfl) hM569 (.inl rfl) rfl rfl hS538 (fun w' hr => (ev_idx (b := b1) (k := k) (sz := 1) (p := o1 + k) rfl (by rw [← hA1]; rfl) rfl Try.underlying22 (by kernel_rfl) hlt (by omega))) (fun a572 hM571 => ?_)
            clear hM569
            refine h_val 18 rfl (by kernel_rfl) (by kernel_rfl) (by kernel_rfl) hM571 (.inl rfl) rfl rfl hS538 (fun w' hr => (ev_load1 (v := .int .i64 a1) rfl rfl ((HC1.out.below hr)).2 (isAgg_no Try.underlying3 rfl))) (fun a574 hM573 => ?_)
            clear hM571
            refine h_val 19 rfl (by kernel_rfl) (by kernel_rfl) (by kernel_rfl) hM573 (.inl rfl) rfl rfl hS538 (fun w' hr => (ev_fldw (m := 5) rfl rfl (fun w => by simp [go_sem]))) (fun a576 hM575 => ?_)
            clear hM573
            refine h_val 20 rfl (by kernel_rfl) (by kernel_rfl) (by kernel_rfl) hM575 (.inl rfl) rfl rfl hS538 (fun w' hr => (ev_load1 (v := .slice (s.wi.A) (s.wi.n) (s.wi.c)) rfl rfl ((KB33.out.on hr).rng.at_ (m := 5) (by rw [HC.out]; rfl)) (isAgg_no Try.underlying22 rfl))) (fun a578 hM577 => ?_)
            clear hM575
            refine h_val 21 rfl (by kernel_rfl) (by kernel_rfl) (by kernel_rfl) hM577 (.inl rfl) rfl rfl hS538 (fun w' hr => (ev_move (.inl rfl) rfl)) (fun a580 hM579 => ?_)
            clear hM577
            refine h_val 22 rfl (by kernel_rfl) (by kernel_rfl) (by kernel_rfl) hM579 (.inl rfl) rfl rfl hS538 (fun w' hr => (ev_idx (b := b2) (k := k) (sz := 1) (p := o2 + k) rfl (by rw [← hA2]; rfl) rfl Try.underlying22 (by kernel_rfl) hlt2 (by omega))) (fun a582 hM581 => ?_)
            clear hM579
            refine h_val 23 rfl (by kernel_rfl) (by kernel_rfl) (by kernel_rfl) hM581 (.inl rfl) rfl rfl hS538 (fun w' hr => (ev_load1 (v := .int .i64 a2) rfl rfl ((HC2.out.below hr)).2 (isAgg_no Try.underlying3 rfl))) (fun a584 hM583 => ?_)
            clear hM581
            refine h_call 11 rfl (by kernel_rfl) hM583 (.inl rfl) rfl rfl (f := 20) (args := #[.pointer (some ⟨g, 0, none⟩), .int .i64 a1, .int .i64 a2]) (ev_call hM583 rfl rfl rfl (fun w => by simp [go_sem]) _) (book_Sign a1 a2 _ ((HT.out.below HB540.out)).tw.bk HQS) (fun e w585 hp => ?_)
            obtain ⟨rfl, h1, h2⟩ := hp
            have HT_ := hide (show TwK w21 G1 G2 w585 g g56 L (sgUp qs (sgP ps) (a1, a2)) L ps from ((HT.out.below HB540.out)).tw.sign h1 h2)
            have HLI_ := hide (((HLI.out.below HB540.out)).chg (h2.mono (fun b h => .inl (.inl h))) (fun b h => .inl h))
            have HB590 := hide (HT_.out.tw.below)
            clear HB539 HB540 HT HLI h1 h2
            have HT := HT_
            clear HT_
            have HLI := HLI_
            clear HLI_
            have HB592 : Hid (Below w585.heap.size w585 w585) := Below.refl _ _
            have hS589 := ((HT.out.below HB592.out)).tw.below
            refine ⟨_, rfl, fun a588 hM587 => ⟨hS589, ?_⟩⟩
            clear hM583
            refine h_call 12 rfl (by kernel_rfl) hM587 (.inl rfl) rfl rfl (f := 19) (args := #[.int .i64 qs]) (ev_call hM587 rfl rfl rfl (fun w => by simp [go_sem]) _) (law8_num _ _) (fun e w593 hp => ?_)
            obtain ⟨rfl, rfl⟩ := hp
            refine ⟨_, rfl, fun a596 hM595 => ⟨hS589, ?_⟩⟩
            clear hM587
            refine h_call 24 rfl (by kernel_rfl) hM595 (.inl rfl) rfl rfl (f := 21) (args := #[.pointer (some ⟨g56, 0, none⟩), .int .i64 a1, .int .i64 a2]) (ev_call hM595 rfl rfl rfl (fun w => by simp [go_sem]) _) (ref5_Sign a1 a2 _ ((HT.out.below HB592.out)).tw.rf HPS HQS) (fun e w597 hp => ?_)
            obtain ⟨rfl, hn⟩ := hp
            obtain ⟨G2b, hT, hG2⟩ := ((HT.out.below HB592.out)).tw.ref hn
            have HT_ := hide (show TwK w21 G1 G2b w597 g g56 L (sgP (psUp qs ps (a1, a2))) L (psUp qs ps (a1, a2)) from by rw [show sgP (psUp qs ps (a1, a2)) = sgUp qs (sgP ps) (a1, a2) from (sgUp_ps qs ps (a1, a2)).symm]; exact hT)
            have HLI_ := hide (((HLI.out.below HB592.out)).chg (hn.chg.mono (fun b h => .inl (.inr h))) (fun b h => h.elim (fun h => .inl (Or.inl h)) (fun h => (hG2 b h).imp (fun h => Or.inr h) id)))
            have HB602 := hide (HT_.out.tw.below)
            clear HB590 HB592 HT HLI hn hT hG2
            have HT := HT_
            clear HT_
            have HLI := HLI_
            clear HLI_
            have HB604 : Hid (Below w597.heap.size w597 w597) := Below.refl _ _
            have hS601 := ((HT.out.below HB604.out)).tw.below
            refine ⟨_, rfl, fun a600 hM599 => ⟨hS601, ?_⟩⟩
            clear hM595
            refine h_val 25 rfl (by kernel_rfl) (by kernel_rfl) (by kernel_rfl) hM599 (.inl rfl) rfl rfl hS601 (fun w' hr => (ev_bin rfl rfl rfl g_int (b_neq (b := false) (by simp)))) (fun a606 hM605 => ?_)
            clear hM599
            refine h_nil (by kernel_rfl) (hK535 _ _ ?_)
            clear hK535 K535 hS601
            have hM607 := hM605.cut6 (t1 := 1) (t2 := 3) (t3 := 4) (t4 := 5) (t5 := 10) (t6 := 103) rfl rfl rfl rfl rfl rfl
            clear hM605
            refine wp_cond_false (hM607.ev (t := 103) rfl) ?_
            refine wp_skip ?_
            refine inb_n ?_
            refine hK534 _ _ ?_
            refine region_last fun K608 QK608 hK608 => ?_
            refine s_val hM607 (.inl rfl) rfl rfl (ev_move (.inl rfl) rfl) (fun a610 hM609 => ?_)
            clear hM607
            refine s_val hM609 (.inl rfl) rfl rfl (ev_bin rfl rfl rfl g_int (b_add (r := ((k + 1 : Nat) : Int)) (by omega) (by have := HLT.out.wo; omega))) (fun a612 hM611 => ?_)
            clear hM609
            refine s_val hM611 (.inl rfl) rfl rfl (ev_move (.inr rfl) rfl) (fun a614 hM613 => ?_)
            clear hM611
            refine seg_nil (hK608 _ _ ?_)
            clear hK608 K608 QK608
            have hM615 := hM613.cut5 (t1 := 1) (t2 := 3) (t3 := 4) (t4 := 5) (t5 := 10) rfl rfl rfl rfl rfl
            clear hM613
            have hM616 := hM615.cut5 (t1 := 10) (t2 := 1) (t3 := 3) (t4 := 4) (t5 := 5) rfl rfl rfl rfl rfl
            clear hM615
            exact ⟨s.wo.n - (k + 1), by omega, k + 1, G2b, (psUp qs ps (a1, a2)), rfl, hM616, HB602, (hide (HT.out.below HB604.out)), (hide (HLI.out.below HB604.out)), HLP2⟩
      ·
        clear HB437 HB439 hM445 HT HLI HLP
        rintro a619 w617 ⟨k, G2, ps, hM618, HB620, HT, HLI, HLP⟩
        have HB622 : Hid (Below w617.heap.size w617 w617) := Below.refl _ _
        refine hK440 _ _ ?_
        refine wp_seq_k fun K623 hK623 => ?_
        obtain ⟨AL, cL, hV⟩ := own_slice ((HLI.out.below HB622.out)).own
        subst hV
        have HBK := hide ((HT.out.below HB622.out)).tw.bk
        have HRF := hide ((HT.out.below HB622.out)).tw.rf
        have HLL := hide (HLI.out.below HB622.out)
        have HB625 : Hid (Below w617.heap.size w617 w617) := Below.refl _ _
        refine region_then fun K626 QK626 hK626 => ?_
        refine s_val hM618 (.inl rfl) rfl rfl (ev_move (.inr rfl) rfl) (fun a628 hM627 => ?_)
        clear hM618
        refine seg_nil (hK626 _ _ ?_)
        clear hK626 K626 QK626
        have hM629 := hM627.cut5 (t1 := 1) (t2 := 3) (t3 := 4) (t4 := 5) (t5 := 11) rfl rfl rfl rfl rfl
        clear hM627
        have hM630 := hM629.cut5 (t1 := 11) (t2 := 1) (t3 := 3) (t4 := 4) (t5 := 5) rfl rfl rfl rfl rfl
        clear hM629
        refine wp_block ?_
        refine wp_loop_ghost (fun m a w' => ∃ (i3 : Nat), m = ys.length - i3 ∧ Frm a 169 [(11, .int .i64 (i3 : Int)), (1, .pointer (some ⟨g4, 0, none⟩)), (3, .pointer (some ⟨g, 0, none⟩)), (4, .pointer (some ⟨g56, 0, none⟩)), (5, .slice AL (ys.length) cL)] ∧ Hid (Below w21.heap.size w21 w') ∧ Hid (Below w617.heap.size w617 w')) ys.length ⟨0,  by omega, hM630, HB620, HB625⟩ ?_
        clear HB620 HB622 HB625 hM630
        rintro m636 a632 w631 ⟨i3, rfl, hM633, HB634, HB635⟩
        refine wp_seq_k fun K637 hK637 => ?_
        by_cases hlt : i3 < ys.length
        case neg =>
          refine region_then fun K638 QK638 hK638 => ?_
          refine s_val hM633 (.inl rfl) rfl rfl (ev_move (.inl rfl) rfl) (fun a640 hM639 => ?_)
          clear hM633
          refine s_val hM639 (.inl rfl) rfl rfl (ev_move (.inl rfl) rfl) (fun a642 hM641 => ?_)
          clear hM639
          refine s_val hM641 (.inl rfl) rfl rfl (ev_len rfl rfl Try.underlying23) (fun a644 hM643 => ?_)
          clear hM641
          refine s_val hM643 (.inl rfl) rfl rfl (ev_bin rfl rfl rfl g_int (b_lss (b := false) (by rw [decide_eq_false_iff_not]; omega))) (fun a646 hM645 => ?_)
          clear hM643
          refine seg_nil (hK638 _ _ ?_)
          clear hK638 K638 QK638
          have hM647 := hM645.cut6 (t1 := 1) (t2 := 3) (t3 := 4) (t4 := 5) (t5 := 11) (t6 := 107) rfl rfl rfl rfl rfl rfl
          clear hM645
          refine wp_cond_false (hM647.ev (t := 107) rfl) ?_
          refine wp_exit ?_
          repeat (with_reducible refine th_e ?_)
          refine inb_e ?_
          refine hK623 _ _ ?_
          obtain ⟨WK, HWK⟩ : ∃ C : Array Value, Hid (C = msC wk8 zV) := ⟨_, rfl⟩
          refine region_then fun K648 QK648 hK648 => ?_
          refine s_val hM647 (.inl rfl) rfl rfl (ev_buildg (v := .agg WK) rfl rfl (fun w => by rw [HWK.out]; kernel_rfl)) (fun a650 hM649 => ?_)
          clear hM647
          refine s_call hM649 (.inl rfl) rfl rfl (f := 23) (args := #[.pointer none, .int .i64 4, .slice none 0 0, .agg WK]) (ev_call hM649 rfl rfl rfl (fun w => by simp [go_sem]) _) (real_Check_nil 4 wk8 zV _ HWK) (fun e w651 hp => ?_)
          obtain ⟨rfl, hb652⟩ := hp
          refine ⟨_, rfl, fun a654 hM653 => ?_⟩
          clear hM649
          have HB655 := hide (below_then HB634.out hb652)
          have HB656 := hide (below_then HB635.out hb652)
          clear hb652 HB634 HB635
          refine s_call hM653 (.inl rfl) rfl rfl (f := 19) (args := #[.int .i64 1]) (ev_call hM653 rfl rfl rfl (fun w => by simp [go_sem]) _) (law8_num _ _) (fun e w657 hp => ?_)
          obtain ⟨rfl, rfl⟩ := hp
          refine ⟨_, rfl, fun a660 hM659 => ?_⟩
          clear hM653
          refine s_val hM659 (.inl rfl) rfl rfl (ev_bin rfl rfl rfl g_int (b_eql (b := true) (by decide))) (fun a662 hM661 => ?_)
          clear hM659
          refine s_val hM661 (.inl rfl) rfl rfl (ev_move (.inl rfl) rfl) (fun a664 hM663 => ?_)
          clear hM661
          refine s_call hM663 (.inr ⟨_, _, _, rfl, rfl, rfl⟩) rfl rfl (f := 28) (args := #[]) (ev_call hM663 rfl rfl rfl (fun w => by simp [go_sem]) _) (law8_wakes _) (fun e w665 hp => ?_)
          obtain ⟨rfl, hb666⟩ := hp
          refine ⟨_, rfl, fun a668 hM667 => ?_⟩
          clear hM663
          have HB669 := hide (below_then HB655.out hb666)
          have HB670 := hide (below_then HB656.out hb666)
          clear hb666 HB655 HB656
          refine s_val hM667 (.inl rfl) rfl rfl (ev_pick rfl rfl rfl) (fun a672 hM671 => ?_)
          clear hM667
          refine s_val hM671 (.inl rfl) rfl rfl (ev_move (.inr rfl) rfl) (fun a674 hM673 => ?_)
          clear hM671
          refine seg_nil (hK648 _ _ ?_)
          clear hK648 K648 QK648
          have hM675 := hM673.cut1 (t1 := 2) rfl
          clear hM673
          refine wp_ret ?_
          repeat (with_reducible first | refine th_r ?_ | refine inb_r ?_ | refine js_r ?_ | refine jq_r ?_)
          refine ret_of (t := 2) rfl hM675 rfl ?_
          exact ⟨rfl, below_then HB00.out HB669.out⟩
        case pos =>
          refine region_then fun K676 QK676 hK676 => ?_
          refine s_val hM633 (.inl rfl) rfl rfl (ev_move (.inl rfl) rfl) (fun a678 hM677 => ?_)
          clear hM633
          refine s_val hM677 (.inl rfl) rfl rfl (ev_move (.inl rfl) rfl) (fun a680 hM679 => ?_)
          clear hM677
          refine s_val hM679 (.inl rfl) rfl rfl (ev_len rfl rfl Try.underlying23) (fun a682 hM681 => ?_)
          clear hM679
          refine s_val hM681 (.inl rfl) rfl rfl (ev_bin rfl rfl rfl g_int (b_lss (b := true) (by rw [decide_eq_true_eq]; omega))) (fun a684 hM683 => ?_)
          clear hM681
          refine seg_nil (hK676 _ _ ?_)
          clear hK676 K676 QK676
          have hM685 := hM683.cut6 (t1 := 1) (t2 := 3) (t3 := 4) (t4 := 5) (t5 := 11) (t6 := 107) rfl rfl rfl rfl rfl rfl
          clear hM683
          refine wp_cond_true (hM685.ev (t := 107) rfl) ?_
          refine wp_skip ?_
          refine hK637 _ _ ?_
          refine wp_seq_k fun K686 hK686 => ?_
          refine wp_block ?_
          obtain ⟨y, v, hyv⟩ : ∃ y v, ys[i3]? = some (y, v) := ⟨_, _, List.getElem?_eq_getElem hlt⟩
          obtain ⟨gl, cl, hV, hR, hI⟩ := HLL.out.at_ hyv
          obtain ⟨MC, HMC⟩ : ∃ C : Array Value, Hid (C = msC y v) := ⟨_, rfl⟩
          have HRM : Hid (Rng w617 gl (i3 * 18) MC) := by rw [HMC.out]; exact hR
          have HMI := hide hI
          clear hR hI
          obtain ⟨E, HE⟩ : ∃ E, Hid (chkE L (sgP ps) ls N y = E) := ⟨_, rfl⟩
          refine region_then fun K687 QK687 hK687 => ?_
          refine s_val hM685 (.inl rfl) rfl rfl (ev_move (.inl rfl) rfl) (fun a689 hM688 => ?_)
          clear hM685
          refine s_val hM688 (.inl rfl) rfl rfl (ev_move (.inl rfl) rfl) (fun a691 hM690 => ?_)
          clear hM688
          refine s_val hM690 (.inl rfl) rfl rfl (ev_idx (b := gl) (k := i3) (sz := 18) (m := ys.length) (c := cl) (p := i3 * 18) rfl (by rw [← hV]; rfl) rfl Try.underlying23 (by kernel_rfl) hlt (by omega)) (fun a693 hM692 => ?_)
          clear hM690
          refine s_val hM692 (.inl rfl) rfl rfl (ev_loadm rfl rfl (HRM.out.below HB635.out) Try.underlying42 rfl (by rw [HMC.out]; exact Try.infoMsg)) (fun a695 hM694 => ?_)
          clear hM692
          refine s_call hM694 (.inl rfl) rfl rfl (f := 17) (args := #[.agg MC]) (ev_call hM694 rfl rfl rfl (fun w => by simp [go_sem]) _) (copy_msg (hide ((HMI.out.below HB635.out)).s) (hide ((HMI.out.below HB635.out)).k) (hide ((HMI.out.below HB635.out)).z) HMC) (fun e w696 hp => ?_)
          obtain ⟨D, u, rfl, HD, HSD, HZD, hb697⟩ := hp
          refine ⟨_, rfl, fun a699 hM698 => ?_⟩
          clear hM694
          have HB700 := hide (below_then HB634.out hb697)
          have HB701 := hide (below_then HB635.out hb697)
          clear hb697 HB634 HB635
          have HB703 : Hid (Below w696.heap.size w696 w696) := Below.refl _ _
          refine s_new hM698 rfl rfl rfl rfl alloc_msg rfl rfl rfl rfl (by rw [HD.out]; exact Try.infoMsg) (by rw [HD.out]; rfl) (one_msg HD.out) (fun g704 a710 w705 hM709 KB708_ hb706 hg707 => ?_)
          have KB708 := hide KB708_
          clear hM698 KB708_
          clear hg707
          have HB711 := hide (below_then HB700.out hb706)
          have HB712 := hide (below_then HB701.out hb706)
          have HB713 := hide (below_then HB703.out hb706)
          clear hb706 HB700 HB701 HB703
          have HB715 : Hid (Below w705.heap.size w705 w705) := Below.refl _ _
          refine seg_nil (hK687 _ _ ?_)
          clear hK687 K687 QK687
          have hM716 := hM709.cut6 (t1 := 1) (t2 := 3) (t3 := 4) (t4 := 5) (t5 := 11) (t6 := 12) rfl rfl rfl rfl rfl rfl
          clear hM709
          refine region_then fun K717 QK717 hK717 => ?_
          refine s_val hM716 (.inl rfl) rfl rfl (ev_fldw (m := 1) rfl rfl (fun w => by simp [go_sem])) (fun a719 hM718 => ?_)
          clear hM716
          refine s_val hM718 (.inl rfl) rfl rfl (ev_load1 (v := .slice (s.li.A) (s.li.n) (s.li.c)) rfl rfl ((KB33.out.on HB711.out).rng.at_ (m := 1) (by rw [HC.out]; rfl)) (isAgg_no Try.underlying22 rfl)) (fun a721 hM720 => ?_)
          clear hM718
          refine s_call hM720 (.inl rfl) rfl rfl (f := 22) (args := #[.slice (s.li.A) (s.li.n) (s.li.c)]) (ev_call hM720 rfl rfl rfl (fun w => by simp [go_sem]) _) (ref0_CopyNumbers s.li.A s.li.n s.li.c ls _ ((HS.out.below HB711.out)).li (by have := HLT.out.li; omega) (by have := HLT.out.li; omega)) (fun e w722 hp => ?_)
          obtain ⟨v', rfl, ho, hb723⟩ := hp
          obtain ⟨Al, cl2, rfl⟩ := own_slice ho
          have HLC := hide (Sl.of_own ho)
          clear ho
          refine ⟨_, rfl, fun a725 hM724 => ?_⟩
          clear hM720
          have HB726 := hide (below_then HB711.out hb723)
          have HB727 := hide (below_then HB712.out hb723)
          have HB728 := hide (below_then HB713.out hb723)
          have HB729 := hide (below_then HB715.out hb723)
          clear hb723 HB711 HB712 HB713 HB715
          have HB731 : Hid (Below w722.heap.size w722 w722) := Below.refl _ _
          refine s_val hM724 (.inl rfl) rfl rfl (ev_move (.inr rfl) rfl) (fun a733 hM732 => ?_)
          clear hM724
          refine seg_nil (hK717 _ _ ?_)
          clear hK717 K717 QK717
          have hM734 := hM732.cut7 (t1 := 1) (t2 := 3) (t3 := 4) (t4 := 5) (t5 := 11) (t6 := 12) (t7 := 13) rfl rfl rfl rfl rfl rfl rfl
          clear hM732
          obtain ⟨AB, cB, -, -, -, -, k0, -, -, -, -⟩ := HRF.out.open_
          have HCB := hide (CellAt.of k0)
          clear k0
          refine h_open 44 rfl (by kernel_rfl) fun K735 w736 hb737 hK735 => ?_
          have HB738 := hide (below_then HB726.out hb737)
          have HB739 := hide (below_then HB727.out hb737)
          have HB740 := hide (below_then HB728.out hb737)
          have HB741 := hide (below_then HB729.out hb737)
          have HB742 := hide (below_then HB731.out hb737)
          clear hb737 HB726 HB727 HB728 HB729 HB731
          have hS743 : Below w736.heap.size w736 w736 := Below.refl _ _
          refine h_val 0 rfl (by kernel_rfl) (by kernel_rfl) (by kernel_rfl) hM734 (.inl rfl) rfl rfl hS743 (fun w' hr => (ev_move (.inl rfl) rfl)) (fun a745 hM744 => ?_)
          clear hM734
          refine h_val 1 rfl (by kernel_rfl) (by kernel_rfl) (by kernel_rfl) hM744 (.inl rfl) rfl rfl hS743 (fun w' hr => (ev_fldw (m := 0) rfl rfl (fun w => by simp [go_sem]))) (fun a747 hM746 => ?_)
          clear hM744
          refine h_val 2 rfl (by kernel_rfl) (by kernel_rfl) (by kernel_rfl) hM746 (.inl rfl) rfl rfl hS743 (fun w' hr => (ev_load1 (v := .int .i64 N) rfl rfl (((KB33.out.on HB738.out).on hr).rng.at_ (m := 0) (by rw [HC.out]; rfl)) (isAgg_no Try.underlying3 rfl))) (fun a749 hM748 => ?_)
          clear hM746
          refine h_val 3 rfl (by kernel_rfl) (by kernel_rfl) (by kernel_rfl) hM748 (.inl rfl) rfl rfl hS743 (fun w' hr => (ev_move (.inl rfl) rfl)) (fun a751 hM750 => ?_)
          clear hM748
          refine h_val 4 rfl (by kernel_rfl) (by kernel_rfl) (by kernel_rfl) hM750 (.inl rfl) rfl rfl hS743 (fun w' hr => (ev_loadm rfl rfl ((KB708.out.on HB741.out).on hr).rng Try.underlying42 rfl (by rw [HD.out]; exact Try.infoMsg))) (fun a753 hM752 => ?_)
          clear hM750
          refine h_val 7 rfl (by kernel_rfl) (by kernel_rfl) (by kernel_rfl) hM752 (.inl rfl) rfl rfl hS743 (fun w' hr => (ev_move (.inl rfl) rfl)) (fun a755 hM754 => ?_)
          clear hM752
          refine h_val 8 rfl (by kernel_rfl) (by kernel_rfl) (by kernel_rfl) hM754 (.inl rfl) rfl rfl hS743 (fun w' hr => (ev_fldw (m := 0) rfl rfl (fun w => by simp [go_sem]))) (fun a757 hM756 => ?_)
          clear hM754
          refine h_val 9 rfl (by kernel_rfl) (by kernel_rfl) (by kernel_rfl) hM756 (.inl rfl) rfl rfl hS743 (fun w' hr => (ev_load1 (v := .int .i64 N) rfl rfl (((KB33.out.on HB738.out).on hr).rng.at_ (m := 0) (by rw [HC.out]; rfl)) (isAgg_no Try.underlying3 rfl))) (fun a759 hM758 => ?_)
          clear hM756
          refine h_val 10 rfl (by kernel_rfl) (by kernel_rfl) (by kernel_rfl) hM758 (.inl rfl) rfl rfl hS743 (fun w' hr => (ev_fldw (m := 1) rfl rfl (fun w => by simp [go_sem]))) (fun a761 hM760 => ?_)
          clear hM758
          refine h_val 11 rfl (by kernel_rfl) (by kernel_rfl) (by kernel_rfl) hM760 (.inl rfl) rfl rfl hS743 (fun w' hr => (ev_load1 (v := .slice (s.li.A) (s.li.n) (s.li.c)) rfl rfl (((KB33.out.on HB738.out).on hr).rng.at_ (m := 1) (by rw [HC.out]; rfl)) (isAgg_no Try.underlying22 rfl))) (fun a763 hM762 => ?_)
          clear hM760
          refine h_val 12 rfl (by kernel_rfl) (by kernel_rfl) (by kernel_rfl) hM762 (.inl rfl) rfl rfl hS743 (fun w' hr => (ev_move (.inl rfl) rfl)) (fun a765 hM764 => ?_)
          clear hM762
          refine h_val 13 rfl (by kernel_rfl) (by kernel_rfl) (by kernel_rfl) hM764 (.inl rfl) rfl rfl hS743 (fun w' hr => (ev_move (.inl rfl) rfl)) (fun a767 hM766 => ?_)
          clear hM764
          refine h_val 14 rfl (by kernel_rfl) (by kernel_rfl) (by kernel_rfl) hM766 (.inl rfl) rfl rfl hS743 (fun w' hr => (ev_idx (b := gl) (k := i3) (sz := 18) (m := ys.length) (c := cl) (p := i3 * 18) rfl (by rw [← hV]; rfl) rfl Try.underlying23 (by kernel_rfl) hlt (by omega))) (fun a769 hM768 => ?_)
          clear hM766
          refine h_val 15 rfl (by kernel_rfl) (by kernel_rfl) (by kernel_rfl) hM768 (.inl rfl) rfl rfl hS743 (fun w' hr => (ev_loadm rfl rfl ((HRM.out.below HB739.out).below hr) Try.underlying42 rfl (by rw [HMC.out]; exact Try.infoMsg))) (fun a771 hM770 => ?_)
          clear hM768
          refine h_call 5 rfl (by kernel_rfl) hM770 (.inl rfl) rfl rfl (f := 23) (args := #[.pointer (some ⟨g, 0, none⟩), .int .i64 N, .slice Al (s.li.n) cl2, .agg D]) (ev_call hM770 rfl rfl rfl (fun w => by simp [go_sem]) _) (real_Check N y u _ (hide (HBK.out.below HB739.out)) (hide (HLC.out.below HB742.out)) (by have := HLT.out.li; omega) (hide (HSD.out.below HB740.out)) (hide HZD.out.1) HD HE) (fun e w772 hp => ?_)
          obtain ⟨rfl, hb773⟩ := hp
          have hS776 := s_in hS743 hb773
          refine ⟨_, rfl, fun a775 hM774 => ⟨hS776, ?_⟩⟩
          clear hM770
          have HB777 := hide (below_then HB738.out hb773)
          have HB778 := hide (below_then HB739.out hb773)
          have HB779 := hide (below_then HB740.out hb773)
          have HB780 := hide (below_then HB741.out hb773)
          have HB781 := hide (below_then HB742.out hb773)
          clear hb773
          refine h_call 6 rfl (by kernel_rfl) hM774 (.inl rfl) rfl rfl (f := 19) (args := #[.int .i64 E]) (ev_call hM774 rfl rfl rfl (fun w => by simp [go_sem]) _) (law8_num _ _) (fun e w782 hp => ?_)
          obtain ⟨rfl, rfl⟩ := hp
          refine ⟨_, rfl, fun a785 hM784 => ⟨hS776, ?_⟩⟩
          clear hM774
          refine h_call 16 rfl (by kernel_rfl) hM784 (.inl rfl) rfl rfl (f := 24) (args := #[.pointer (some ⟨g56, 0, none⟩), .int .i64 N, .slice (s.li.A) (s.li.n) (s.li.c), .agg MC]) (ev_call hM784 rfl rfl rfl (fun w => by simp [go_sem]) _) (ref5_Real N y v _ (hide (HRF.out.below HB778.out)) (hide ((HS.out.below HB777.out)).li) (by have := HLT.out.li; omega) (hide ((HMI.out.below HB778.out)).s) (hide ((HMI.out.below HB778.out)).z) HMC HE) (fun e w786 hp => ?_)
          obtain ⟨rfl, hb787⟩ := hp
          have hS790 := s_in hS776 hb787
          refine ⟨_, rfl, fun a789 hM788 => ⟨hS790, ?_⟩⟩
          clear hM784
          have HB791 := hide (below_then HB777.out hb787)
          have HB792 := hide (below_then HB778.out hb787)
          have HB793 := hide (below_then HB779.out hb787)
          have HB794 := hide (below_then HB780.out hb787)
          have HB795 := hide (below_then HB781.out hb787)
          clear hb787 HB777 HB778 HB779 HB780 HB781
          refine h_val 17 rfl (by kernel_rfl) (by kernel_rfl) (by kernel_rfl) hM788 (.inl rfl) rfl rfl hS790 (fun w' hr => (ev_bin rfl rfl rfl g_int (b_neq (b := false) (by simp)))) (fun a797 hM796 => ?_)
          clear hM788
          refine h_val 18 rfl (by kernel_rfl) (by kernel_rfl) (by kernel_rfl) hM796 (.inl rfl) rfl rfl hS790 (fun w' hr => (ev_move (.inl rfl) rfl)) (fun a799 hM798 => ?_)
          clear hM796
          refine h_val 19 rfl (by kernel_rfl) (by kernel_rfl) (by kernel_rfl) hM798 (.inr ⟨_, _, _, rfl, rfl, rfl⟩) rfl rfl hS790 (fun w' hr => (ev_loadm rfl rfl ((KB708.out.on HB741.out).on hr).rng Try.underlying42 rfl (by rw [HD.out]; exact Try.infoMsg))) (fun a801 hM800 => ?_)
          clear hM798
          refine h_val 20 rfl (by kernel_rfl) (by kernel_rfl) (by kernel_rfl) hM800 (.inr ⟨_, _, _, rfl, rfl, rfl⟩) rfl rfl hS790 (fun w' hr => (ev_move (.inl rfl) rfl)) (fun a803 hM802 => ?_)
          clear hM800
          refine h_val 21 rfl (by kernel_rfl) (by kernel_rfl) (by kernel_rfl) hM802 (.inr ⟨_, _, _, rfl, rfl, rfl⟩) rfl rfl hS790 (fun w' hr => (ev_move (.inl rfl) rfl)) (fun a805 hM804 => ?_)
          clear hM802
          refine h_val 22 rfl (by kernel_rfl) (by kernel_rfl) (by kernel_rfl) hM804 (.inr ⟨_, _, _, rfl, rfl, rfl⟩) rfl rfl hS790 (fun w' hr => (ev_idx (b := gl) (k := i3) (sz := 18) (m := ys.length) (c := cl) (p := i3 * 18) rfl (by rw [← hV]; rfl) rfl Try.underlying23 (by kernel_rfl) hlt (by omega))) (fun a807 hM806 => ?_)
          clear hM804
          refine h_val 23 rfl (by kernel_rfl) (by kernel_rfl) (by kernel_rfl) hM806 (.inr ⟨_, _, _, rfl, rfl, rfl⟩) rfl rfl hS790 (fun w' hr => (ev_loadm rfl rfl ((HRM.out.below HB739.out).below hr) Try.underlying42 rfl (by rw [HMC.out]; exact Try.infoMsg))) (fun a809 hM808 => ?_)
          clear hM806
          refine h_call 24 rfl (by kernel_rfl) hM808 (.inr ⟨_, _, _, rfl, rfl, rfl⟩) rfl rfl (f := 25) (args := #[.agg D, .agg MC]) (ev_call hM808 rfl rfl rfl (fun w => by simp [go_sem]) _) (ref0_EqMessage y y u v _ (hide (HSD.out.below HB793.out)) (hide HZD.out.1) (hide ((HMI.out.below HB792.out)).s) (hide ((HMI.out.below HB792.out)).z) HD HMC (r := true) (by simp [Hid])) (fun e w810 hp => ?_)
          obtain ⟨rfl, hb811⟩ := hp
          have hS814 := s_in hS790 hb811
          refine ⟨_, rfl, fun a813 hM812 => ⟨hS814, ?_⟩⟩
          clear hM808
          have HB815 := hide (below_then HB791.out hb811)
          have HB816 := hide (below_then HB792.out hb811)
          have HB817 := hide (below_then HB793.out hb811)
          have HB818 := hide (below_then HB794.out hb811)
          have HB819 := hide (below_then HB795.out hb811)
          clear hb811 HB791 HB792 HB793 HB794 HB795
          refine h_val 25 rfl (by kernel_rfl) (by kernel_rfl) (by kernel_rfl) hM812 (.inr ⟨_, _, _, rfl, rfl, rfl⟩) rfl rfl hS814 (fun w' hr => (ev_not rfl rfl rfl)) (fun a821 hM820 => ?_)
          clear hM812
          refine h_val 26 rfl (by kernel_rfl) (by kernel_rfl) (by kernel_rfl) hM820 (.inl rfl) rfl rfl hS814 (fun w' hr => (ev_pick rfl rfl rfl)) (fun a823 hM822 => ?_)
          clear hM820
          refine h_val 27 rfl (by kernel_rfl) (by kernel_rfl) (by kernel_rfl) hM822 (.inl rfl) rfl rfl hS814 (fun w' hr => (ev_move (.inl rfl) rfl)) (fun a825 hM824 => ?_)
          clear hM822
          refine h_val 28 rfl (by kernel_rfl) (by kernel_rfl) (by kernel_rfl) hM824 (.inr ⟨_, _, _, rfl, rfl, rfl⟩) rfl rfl hS814 (fun w' hr => (ev_move (.inl rfl) rfl)) (fun a827 hM826 => ?_)
          clear hM824
          refine h_val 29 rfl (by kernel_rfl) (by kernel_rfl) (by kernel_rfl) hM826 (.inr ⟨_, _, _, rfl, rfl, rfl⟩) rfl rfl hS814 (fun w' hr => (ev_fldw (m := 1) rfl rfl (fun w => by simp [go_sem]))) (fun a829 hM828 => ?_)
          clear hM826
          refine h_val 30 rfl (by kernel_rfl) (by kernel_rfl) (by kernel_rfl) hM828 (.inr ⟨_, _, _, rfl, rfl, rfl⟩) rfl rfl hS814 (fun w' hr => (ev_load1 (v := .slice (s.li.A) (s.li.n) (s.li.c)) rfl rfl (((KB33.out.on HB738.out).on hr).rng.at_ (m := 1) (by rw [HC.out]; rfl)) (isAgg_no Try.underlying22 rfl))) (fun a831 hM830 => ?_)
          clear hM828
          refine h_call 31 rfl (by kernel_rfl) hM830 (.inr ⟨_, _, _, rfl, rfl, rfl⟩) rfl rfl (f := 26) (args := #[.slice Al (s.li.n) cl2, .slice (s.li.A) (s.li.n) (s.li.c)]) (ev_call hM830 rfl rfl rfl (fun w => by simp [go_sem]) _) (eq_by (p := decide (ls = ls)) (q := true) (by simp) ((ref0_EqNumbers _ _ _ _ _ _ ls ls _ (HLC.out.below HB819.out) (by have := HLT.out.li; omega) ((HS.out.below HB815.out)).li (by have := HLT.out.li; omega)))) (fun e w832 hp => ?_)
          obtain ⟨rfl, q836, rfl⟩ := hp
          have hb833 : Below w810.heap.size w810 (w810.drewN q836) := below_drewN (Below.refl _ _) q836
          generalize w810.drewN q836 = w832 at hb833 ⊢
          have hS837 := s_in hS814 hb833
          refine ⟨_, rfl, fun a835 hM834 => ⟨hS837, ?_⟩⟩
          clear hM830
          have HB838 := hide (below_then HB815.out hb833)
          have HB839 := hide (below_then HB816.out hb833)
          have HB840 := hide (below_then HB817.out hb833)
          have HB841 := hide (below_then HB818.out hb833)
          have HB842 := hide (below_then HB819.out hb833)
          clear hb833 HB815 HB816 HB817 HB818 HB819
          refine h_val 32 rfl (by kernel_rfl) (by kernel_rfl) (by kernel_rfl) hM834 (.inr ⟨_, _, _, rfl, rfl, rfl⟩) rfl rfl hS837 (fun w' hr => (ev_not rfl rfl rfl)) (fun a844 hM843 => ?_)
          clear hM834
          refine h_val 33 rfl (by kernel_rfl) (by kernel_rfl) (by kernel_rfl) hM843 (.inl rfl) rfl rfl hS837 (fun w' hr => (ev_pick rfl rfl rfl)) (fun a846 hM845 => ?_)
          clear hM843
          refine h_val 34 rfl (by kernel_rfl) (by kernel_rfl) (by kernel_rfl) hM845 (.inl rfl) rfl rfl hS837 (fun w' hr => (ev_move (.inl rfl) rfl)) (fun a848 hM847 => ?_)
          clear hM845
          refine h_val 35 rfl (by kernel_rfl) (by kernel_rfl) (by kernel_rfl) hM847 (.inr ⟨_, _, _, rfl, rfl, rfl⟩) rfl rfl hS837 (fun w' hr => (ev_move (.inl rfl) rfl)) (fun a850 hM849 => ?_)
          clear hM847
          refine h_val 37 rfl (by kernel_rfl) (by kernel_rfl) (by kernel_rfl) hM849 (.inr ⟨_, _, _, rfl, rfl, rfl⟩) rfl rfl hS837 (fun w' hr => (ev_move (.inl rfl) rfl)) (fun a852 hM851 => ?_)
          clear hM849
          refine h_val 38 rfl (by kernel_rfl) (by kernel_rfl) (by kernel_rfl) hM851 (.inr ⟨_, _, _, rfl, rfl, rfl⟩) rfl rfl hS837 (fun w' hr => (ev_nilc rfl rfl)) (fun a854 hM853 => ?_)
          clear hM851
          refine h_val 39 rfl (by kernel_rfl) (by kernel_rfl) (by kernel_rfl) hM853 (.inr ⟨_, _, _, rfl, rfl, rfl⟩) rfl rfl hS837 (fun w' hr => (ev_fldw (m := 0) rfl rfl (fun w => by simp [go_sem]))) (fun a856 hM855 => ?_)
          clear hM853
          refine h_val 40 rfl (by kernel_rfl) (by kernel_rfl) (by kernel_rfl) hM855 (.inr ⟨_, _, _, rfl, rfl, rfl⟩) rfl rfl hS837 (fun w' hr => (ev_load1 (v := .slice AB L.length cB) rfl rfl (((HCB.out.below HB739.out).below hr)).2 (isAgg_no (P := Try.prog) (d := .slice 60) (by kernel_rfl) rfl))) (fun a858 hM857 => ?_)
          clear hM855
          refine h_val 41 rfl (by kernel_rfl) (by kernel_rfl) (by kernel_rfl) hM857 (.inr ⟨_, _, _, rfl, rfl, rfl⟩) rfl rfl hS837 (fun w' hr => (ev_len rfl rfl Try.underlying31)) (fun a860 hM859 => ?_)
          clear hM857
          refine h_call 36 rfl (by kernel_rfl) hM859 (.inr ⟨_, _, _, rfl, rfl, rfl⟩) rfl rfl (f := 27) (args := #[.pointer (some ⟨g, 0, none⟩)]) (ev_call hM859 rfl rfl rfl (fun w => by simp [go_sem]) _) (book_Count _ (HBK.out.below HB839.out)) (fun e w861 hp => ?_)
          obtain ⟨rfl, rfl⟩ := hp
          refine ⟨_, rfl, fun a864 hM863 => ⟨hS837, ?_⟩⟩
          clear hM859
          refine h_val 42 rfl (by kernel_rfl) (by kernel_rfl) (by kernel_rfl) hM863 (.inr ⟨_, _, _, rfl, rfl, rfl⟩) rfl rfl hS837 (fun w' hr => (ev_bin rfl rfl rfl g_int (b_neq (b := false) (by simp)))) (fun a866 hM865 => ?_)
          clear hM863
          refine h_val 43 rfl (by kernel_rfl) (by kernel_rfl) (by kernel_rfl) hM865 (.inl rfl) rfl rfl hS837 (fun w' hr => (ev_pick rfl rfl rfl)) (fun a868 hM867 => ?_)
          clear hM865
          refine h_nil (by kernel_rfl) (hK735 _ _ ?_)
          clear hK735 K735 hS837 HB738 HB739 HB740 HB741 HB742
          have hM869 := hM867.cut6 (t1 := 1) (t2 := 3) (t3 := 4) (t4 := 5) (t5 := 11) (t6 := 161) rfl rfl rfl rfl rfl rfl
          clear hM867
          refine wp_cond_false (hM869.ev (t := 161) rfl) ?_
          refine wp_skip ?_
          refine inb_n ?_
          refine hK686 _ _ ?_
          refine region_last fun K870 QK870 hK870 => ?_
          refine s_val hM869 (.inl rfl) rfl rfl (ev_move (.inl rfl) rfl) (fun a872 hM871 => ?_)
          clear hM869
          refine s_val hM871 (.inl rfl) rfl rfl (ev_bin rfl rfl rfl g_int (b_add (r := ((i3 + 1 : Nat) : Int)) (by omega) (by have := HLN.out; omega))) (fun a874 hM873 => ?_)
          clear hM871
          refine s_val hM873 (.inl rfl) rfl rfl (ev_move (.inr rfl) rfl) (fun a876 hM875 => ?_)
          clear hM873
          refine seg_nil (hK870 _ _ ?_)
          clear hK870 K870 QK870
          have hM877 := hM875.cut5 (t1 := 1) (t2 := 3) (t3 := 4) (t4 := 5) (t5 := 11) rfl rfl rfl rfl rfl
          clear hM875
          have hM878 := hM877.cut5 (t1 := 11) (t2 := 1) (t3 := 3) (t4 := 4) (t5 := 5) rfl rfl rfl rfl rfl
          clear hM877
          exact ⟨ys.length - (i3 + 1), by omega, i3 + 1, rfl, hM878, HB838, HB839⟩
end Go.Proofs.Ytebaojcfmkobjaa
