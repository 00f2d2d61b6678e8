/-
  Contracts: message.Decode.
-/
import Derived.Test.YtmnogefpphonlaaMsgR
import Derived.Test.YtmnogefpphonlaaGr07
import Derived.Test.YtmnogefpphonlaaGr10
import Derived.Deep.DeepCutAuto
set_option linter.unusedVariables false
set_option linter.unusedSimpArgs false
namespace Go.Proofs.Ytmnogefpphonlaa
open Go.RowKit

theorem cell_kept {w w' : World} {p : Addr} {v : Value} (hb : Below w.heap.size w w') (h : w.cell? p = some v) : w'.cell? p = some v := (hb.cell (lt_of_cell h)).trans h
theorem cell_set {w : World} {p : Addr} {v : Value} {g i : Nat} (h : w.cell? p = some v) (hne : p.block ≠ g) (u : Value) : (w.setCell ⟨g, i, none⟩ u).cell? p = some v := cell_grown2 (grown_set w g i u) h hne
theorem below_set' {B : Nat} {w wr : World} (h : Below B w wr) {g i : Nat} (hg : B ≤ g) (u : Value) : Below B w (wr.setCell ⟨g, i, none⟩ u) := h.setCell hg u
theorem rdM_bad {x0 x1 x2 x3 x4 x5 x6 x7 x8 x9 : ByteArray} (h : wholes [x0, x1, x2, x3, x4] = none) : rdM [x0, x1, x2, x3, x4, x5, x6, x7, x8, x9] = none := by
  unfold rdM
  dsimp only
  rw [h]
theorem rdM_good {x0 x1 x2 x3 x4 x5 x6 x7 x8 x9 : ByteArray} {k f t d e : Int} (h : wholes [x0, x1, x2, x3, x4] = some [k, f, t, d, e]) : rdM [x0, x1, x2, x3, x4, x5, x6, x7, x8, x9] = some ⟨k, f, t, d, rdBt x5, rdHd x6, ⟨rdHd x7, e, rdNs x8⟩, rdNs x9⟩ := by
  unfold rdM
  dsimp only
  rw [h]
theorem EndM.no {r : Option MsD} {w w' : World} (h : r = none) (hb : Below w.heap.size w w') : EndM r w (.returned (.tuple #[.agg #[.int .i64 0, .int .i64 0, .int .i64 0, .int .i64 0, .int .i64 0, .int .i64 0, .slice none 0 0, .int .i64 0, .int .i64 0, .slice none 0 0, .slice none 0 0, .int .i64 0, .int .i64 0, .slice none 0 0, .slice none 0 0, .int .i64 0, .slice none 0 0, .slice none 0 0], .int .i64 1])) w' := by
  subst h
  exact ⟨_, zV, rfl, ⟨rfl, ⟨Sl.nil_, Sl.nil_, Sl.nil_, Sl.nil_, Sl.nil_, Sl.nil_, Sl.nil_⟩, ⟨(by intro t ht; simp [zM, zB] at ht), by simp [zV, nilV], by simp [zV, nilV], by simp [zV, nilV], by simp [zV, nilV], by simp [zV, nilV], by simp [zV, nilV], by simp [zV, nilV]⟩⟩, hb⟩
theorem EndM.yes {r : Option MsD} {x : MsD} {u : MsV} {D : Array Value} {w w' : World} (h : r = some x) (hD : D = msC x u) (h1 : MsS w' x u) (h2 : MsZ x u) (hb : Below w.heap.size w w') : EndM r w (.returned (.tuple #[.agg D, .int .i64 0])) w' := by
  subst h
  exact ⟨D, u, rfl, ⟨hD, h1, h2⟩, hb⟩
theorem run_load_blk {P : Program} {w : World} {ev : Operand → Value} {o : Oper} {ty : TypeId} {x : Operand} (ho : o.op = .load ty x) (g : Nat) (hx : ev x = .pointer (some ⟨g, 0, none⟩)) (t : TypeId) (cs : Array Value) (d : TypeDesc) (hg : Blk w g t cs)
    (hu : P.underlying ty = some d) (hd : (match d with | .struct _ | .array _ _ => true | _ => false) = true) (hi : (P.info? ty).map (·.size) = some cs.size) : (execOp ev o).run P w = .ok (.value (.agg cs)) w := by
  unfold execOp
  simp only [ho, hx, Instr.loadAt, Instr.sureAddr, Sem.run_bind, Sem.run_pure, Result.andThen_ok, run_loadVar_row w g t ty cs (0, 0) d hg hu hd hi]
theorem seg_call {P : Program} {ops : Array Oper} {Q : Exit → Act → World → Prop} {K : Act → World → Prop} {a : Act} {w : World} {rest : List Oper} {o : Oper} {n : Nat} {M : List (Nat × Value)} {d : Nat} {f : FuncId} {args : Array Value} {v : Value} {R : World → Prop} (hM : Frm a n M) (hd : o.dst = some d) (hn : d < n) (hg : o.guard = none)
    (hr : (execOp a.eval o).run P w = .ok (.enter f args) w) (hc : Calls P f args w fun e w' => e = .returned v ∧ R w')
    (h : ∀ a' w', Frm a' n ((d, v) :: M) → R w' → wpSeg P ops Q K rest a' w') : wpSeg P ops Q K (o :: rest) a w := by
  unfold wpSeg
  rw [if_pos (by simp [Region.wanted, hg])]
  refine .inl ?_
  unfold Oper.wp
  rw [hr, Oper.upon_enter]
  refine hc.mono ?_
  rintro e w' ⟨rfl, hR⟩
  simp only [hd]
  exact h _ _ (hM.put hn v) hR
theorem seg_callx {P : Program} {ops : Array Oper} {Q : Exit → Act → World → Prop} {K : Act → World → Prop} {a : Act} {w : World} {rest : List Oper} {o : Oper} {n : Nat} {M : List (Nat × Value)} {d j dj : Nat} {b : Bool} {f : FuncId} {args : Array Value} {R : Value → World → Prop} (hM : Frm a n M) (hd : o.dst = some d) (hn : d < n) (hg : o.guard = some (j, b)) (hj : (ops[j]?).bind (·.dst) = some dj) (hl : lk M dj = some (.bool b))
    (hr : (execOp a.eval o).run P w = .ok (.enter f args) w) (hc : Calls P f args w fun e w' => ∃ v, e = .returned v ∧ R v w')
    (h : ∀ v a' w', Frm a' n ((d, v) :: M) → R v w' → wpSeg P ops Q K rest a' w') : wpSeg P ops Q K (o :: rest) a w := by
  unfold wpSeg
  rw [if_pos (by simp [Region.wanted, hg, hM.yield hj hl])]
  refine .inl ?_
  unfold Oper.wp
  rw [hr, Oper.upon_enter]
  refine hc.mono ?_
  rintro e w' ⟨v, rfl, hR⟩
  simp only [hd]
  exact h v _ _ (hM.put hn v) hR
theorem seg_store_row {P : Program} {ops : Array Oper} {Q : Exit → Act → World → Prop} {K : Act → World → Prop} {a : Act} {w : World} {rest : List Oper} {o : Oper} {n : Nat} {M : List (Nat × Value)} {ty : TypeId} {x y : Nat} (hM : Frm a n M) (hd : o.dst = none) (hg : o.guard = none)
    (ho : o.op = .store ty (.tmp x) (.tmp y)) (g : Nat) (hx : lk M x = some (.pointer (some ⟨g, 0, none⟩))) (t : TypeId) (cs : Array Value) (v : Value) (hy : lk M y = some v) (hb : Blk w g t cs) (hz : (P.info? ty).map (·.size) = some v.cells.size) (hs : cs.size = v.cells.size) (h1 : ∀ u ∈ v.cells.toList, u.oneCell' = true)
    (h : ∀ w', Blk w' g t v.cells → w.grownBy w' (some g) → wpSeg P ops Q K rest a w') : wpSeg P ops Q K (o :: rest) a w := by
  unfold wpSeg
  rw [if_pos (by simp [Region.wanted, hg])]
  refine .inl (wp_store_row ty (.tmp x) (.tmp y) ho g (hM.ev hx) t cs v (hM.ev hy) hb hz hs h1 fun w' q1 q2 => ?_)
  rw [hd]
  exact h w' q1 q2
set_option maxRecDepth 100000 in
set_option maxHeartbeats 4000000 in
theorem message_Decode {A : Option Addr} {n c : Nat} {bs : List UInt8} (nn : Int) (w : World) (hs : Sl w 1 A n (bytes8 bs)) (hnc : n ≤ c) (hc : c ≤ 9223372036854775807) {r : Option MsD} (hr : Hid (decM nn bs = r)) :
    Calls Try.prog 16 #[.slice A n c, .int .i64 nn] w (EndM r w) := by
  have HS0 := hide hs
  have hs2 := (hs.alloc (.cells #[.int .i64 0, .int .i64 0, .int .i64 0, .int .i64 0, .int .i64 0, .int .i64 0, .slice none 0 0, .int .i64 0, .int .i64 0, .slice none 0 0, .slice none 0 0, .int .i64 0, .int .i64 0, .slice none 0 0, .slice none 0 0, .int .i64 0, .slice none 0 0, .slice none 0 0] 32)).alloc (.cells #[.int .i64 0, .int .i64 0, .int .i64 0, .int .i64 0, .int .i64 0, .int .i64 0, .slice none 0 0, .int .i64 0, .int .i64 0, .slice none 0 0, .slice none 0 0, .int .i64 0, .int .i64 0, .slice none 0 0, .slice none 0 0, .int .i64 0, .slice none 0 0, .slice none 0 0] 32)
  have kb := Blk.new2 w (.cells #[.int .i64 0, .int .i64 0, .int .i64 0, .int .i64 0, .int .i64 0, .int .i64 0, .slice none 0 0, .int .i64 0, .int .i64 0, .slice none 0 0, .slice none 0 0, .int .i64 0, .int .i64 0, .slice none 0 0, .slice none 0 0, .int .i64 0, .slice none 0 0, .slice none 0 0] 32) 32 #[.int .i64 0, .int .i64 0, .int .i64 0, .int .i64 0, .int .i64 0, .int .i64 0, .slice none 0 0, .int .i64 0, .int .i64 0, .slice none 0 0, .slice none 0 0, .int .i64 0, .int .i64 0, .slice none 0 0, .slice none 0 0, .int .i64 0, .slice none 0 0, .slice none 0 0]
  have kr := (Blk.new w 32 #[.int .i64 0, .int .i64 0, .int .i64 0, .int .i64 0, .int .i64 0, .int .i64 0, .slice none 0 0, .int .i64 0, .int .i64 0, .slice none 0 0, .slice none 0 0, .int .i64 0, .int .i64 0, .slice none 0 0, .slice none 0 0, .int .i64 0, .slice none 0 0, .slice none 0 0]).alloc (.cells #[.int .i64 0, .int .i64 0, .int .i64 0, .int .i64 0, .int .i64 0, .int .i64 0, .slice none 0 0, .int .i64 0, .int .i64 0, .slice none 0 0, .slice none 0 0, .int .i64 0, .int .i64 0, .slice none 0 0, .slice none 0 0, .int .i64 0, .slice none 0 0, .slice none 0 0] 32)
  have hb0 : Below w.heap.size w ((w.alloc (.cells #[.int .i64 0, .int .i64 0, .int .i64 0, .int .i64 0, .int .i64 0, .int .i64 0, .slice none 0 0, .int .i64 0, .int .i64 0, .slice none 0 0, .slice none 0 0, .int .i64 0, .int .i64 0, .slice none 0 0, .slice none 0 0, .int .i64 0, .slice none 0 0, .slice none 0 0] 32)).alloc (.cells #[.int .i64 0, .int .i64 0, .int .i64 0, .int .i64 0, .int .i64 0, .int .i64 0, .slice none 0 0, .int .i64 0, .int .i64 0, .slice none 0 0, .slice none 0 0, .int .i64 0, .int .i64 0, .slice none 0 0, .slice none 0 0, .int .i64 0, .slice none 0 0, .slice none 0 0] 32)) := (below_alloc' w _).alloc (by simp) _
  clear hs
  go_enter Try.func16, Try.ntmps16
  go_wp2_with fail
  refine scope_loop 0 (fun a w' => Frm a 91 [(4, .pointer (some ⟨w.heap.size, 0, none⟩))] ∧ Hid (Blk w' w.heap.size 32 #[.int .i64 0, .int .i64 0, .int .i64 0, .int .i64 0, .int .i64 0, .int .i64 0, .slice none 0 0, .int .i64 0, .int .i64 0, .slice none 0 0, .slice none 0 0, .int .i64 0, .int .i64 0, .slice none 0 0, .slice none 0 0, .int .i64 0, .slice none 0 0, .slice none 0 0]) ∧ Hid (Below w.heap.size w w') ∧ Hid (r = none)) (fun _ _ => 0) rfl ?_ ?_
  · rintro a w' ⟨hM, KR, HBW, HNO⟩
    clear kb kr hb0 hs2
    refine wp_seq_k fun K hK => ?_
    refine wp_region_lit ?_
    refine seg_cut3 (fun a' w' => Frm a' 91 [(5, .int .i64 1), (4, .pointer (some ⟨w.heap.size, 0, none⟩))] ∧ Hid (Blk w' w.heap.size 32 #[.int .i64 0, .int .i64 0, .int .i64 0, .int .i64 0, .int .i64 0, .int .i64 0, .slice none 0 0, .int .i64 0, .int .i64 0, .slice none 0 0, .slice none 0 0, .int .i64 0, .int .i64 0, .slice none 0 0, .slice none 0 0, .int .i64 0, .slice none 0 0, .slice none 0 0]) ∧ Hid (Below w.heap.size w w')) (fun K2 hK2 => ?_) (fun a' w' hS => ?_)
    · refine seg_val hM rfl (by omega) rfl (v := .agg #[.int .i64 0, .int .i64 0, .int .i64 0, .int .i64 0, .int .i64 0, .int .i64 0, .slice none 0 0, .int .i64 0, .int .i64 0, .slice none 0 0, .slice none 0 0, .int .i64 0, .int .i64 0, .slice none 0 0, .slice none 0 0, .int .i64 0, .slice none 0 0, .slice none 0 0]) (w' := w') (by simp [execOp, go_sem]) (fun a hM => ?_)
      refine seg_store_row hM rfl rfl rfl w.heap.size rfl 32 #[.int .i64 0, .int .i64 0, .int .i64 0, .int .i64 0, .int .i64 0, .int .i64 0, .slice none 0 0, .int .i64 0, .int .i64 0, .slice none 0 0, .slice none 0 0, .int .i64 0, .int .i64 0, .slice none 0 0, .slice none 0 0, .int .i64 0, .slice none 0 0, .slice none 0 0] (.agg #[.int .i64 0, .int .i64 0, .int .i64 0, .int .i64 0, .int .i64 0, .int .i64 0, .slice none 0 0, .int .i64 0, .int .i64 0, .slice none 0 0, .slice none 0 0, .int .i64 0, .int .i64 0, .slice none 0 0, .slice none 0 0, .int .i64 0, .slice none 0 0, .slice none 0 0]) rfl KR.out (by exact Try.infoMsg) rfl (by decide) (fun wf KF hgf => ?_)
      refine seg_val hM rfl (by omega) rfl (v := .int .i64 1) (w' := wf) (by simp [execOp, Act.eval]) (fun a hM => ?_)
      exact seg_nil (hK2 _ _ ⟨hM.weak (by intro p hp; simp only [List.mem_cons, List.not_mem_nil, or_false] at hp; rcases hp with rfl | rfl <;> rfl), KF, below_of_grown HBW.out hgf HBW.out.size (Nat.le_refl _)⟩)
    · obtain ⟨hM2, KF, HBF⟩ := hS
      refine wpList_nil (hK _ _ ?_)
      apply wp_ret
      rw [Exit.jump_ret]
      have e4 : a'.tmps.getD 4 undef = .pointer (some ⟨w.heap.size, 0, none⟩) := hM2.ev (t := 4) rfl
      have e5 : a'.tmps.getD 5 undef = .int .i64 1 := hM2.ev (t := 5) rfl
      refine bodyPost_ret (results_cell_row2 Try.results16 _ _ _ _ _ _ _ e4 KF.out Try.underlying32 rfl (by exact Try.infoMsg)) hM2.2.1 ?_
      rw [e5]
      exact EndM.no HNO.out HBF.out
  · intro H
    have HH := hide H
    clear H
    have H := HH.out
    go_wp2_with fail
    generalize (w.alloc (.cells #[.int .i64 0, .int .i64 0, .int .i64 0, .int .i64 0, .int .i64 0, .int .i64 0, .slice none 0 0, .int .i64 0, .int .i64 0, .slice none 0 0, .slice none 0 0, .int .i64 0, .int .i64 0, .slice none 0 0, .slice none 0 0, .int .i64 0, .slice none 0 0, .slice none 0 0] 32)).alloc (.cells #[.int .i64 0, .int .i64 0, .int .i64 0, .int .i64 0, .int .i64 0, .int .i64 0, .slice none 0 0, .int .i64 0, .int .i64 0, .slice none 0 0, .slice none 0 0, .int .i64 0, .int .i64 0, .slice none 0 0, .slice none 0 0, .int .i64 0, .slice none 0 0, .slice none 0 0] 32) = w1 at hs2 kb kr hb0 ⊢
    have hsz1 : w.heap.size + 1 < w1.heap.size := kb.lt
    cases hgt : getT bs with
    | none =>
      have HG := hide hgt
      have HNO : Hid (r = none) := by rw [Hid, ← hr.out]; unfold decM; rw [hgt]
      clear hgt hr
      refine (wire_Get_no _ hs2 hnc hc HG.out).mono ?_
      rintro e w2 ⟨rfl, hb2⟩
      have kr2 := hide (kr.later hb2)
      have hbb := hide (hb0.trans (hb2.mono (by omega)))
      clear hb2 hb0 kr kb hs2
      go_wp2_with fail
      go_step3
      repeat (first | refine Exit.then_goto ?_ | refine Exit.inBlock_goto ?_)
      exact Exit.jump_goto ⟨Frm.start rfl (by intro p hp; simp only [List.mem_cons, List.not_mem_nil, or_false] at hp; subst hp; rfl), kr2, hbb, HNO⟩
    | some ls =>
      have HG := hide hgt
      obtain ⟨hbs, hbl, hdom⟩ := getL_back codecT hgt
      have hcount := put_count (e := encT) codecT.pos ls
      rw [← hbs] at hcount
      have HRD : Hid (r = match rdM ls with | none => none | some m => if mayM nn m && (msgB m == bs) then some m else none) := by rw [Hid, ← hr.out]; unfold decM; rw [hgt]; rfl
      obtain ⟨L, HLL⟩ : ∃ L, Hid (ls.length = L) := ⟨_, rfl⟩
      have hLX : L ≤ 1048576 := by have := HLL.out; omega
      have HDOM := hide hdom
      clear hgt hbs hbl hdom hcount hr
      refine (wire_Get_yes _ hs2 hnc hc HG.out).mono ?_
      rintro e w2 ⟨v2, rfl, hown2, hb2⟩
      rw [HLL.out] at hown2
      obtain ⟨A2, c2, rfl, hc2, hc2m⟩ := own_slice_cap hown2
      unfold maxLen at hc2m
      have kb2 := kb.later hb2
      have kr2 := kr.later hb2
      have hbb := hb0.trans (hb2.mono (by omega))
      have hsz2 := hbb.size
      have hsz12 := hb2.size
      clear kb kr hb0 hb2 hs2
      by_cases h10 : L = 10
      case neg =>
        have HNO : Hid (r = none) := by rw [Hid, HRD.out, rdM_len (by rw [HLL.out]; exact h10)]
        have hd10 : ((L : Int) != 10) = true := by simp only [bne_iff_ne, ne_eq]; omega
        have KR2 := hide kr2
        have HBB := hide hbb
        clear h10 kr2 hbb kb2
        go_wp2_with fail
        go_step3
        repeat (first | refine Exit.then_goto ?_ | refine Exit.inBlock_goto ?_)
        exact Exit.jump_goto ⟨Frm.start rfl (by intro p hp; simp only [List.mem_cons, List.not_mem_nil, or_false] at hp; subst hp; rfl), KR2, HBB, HNO⟩
      subst h10
      obtain ⟨g2, cap2, hv2, hg2, hg2l⟩ := hown2.form (by omega)
      injection hv2 with hA2 _ hcap
      subst hA2
      have hs4 := Sl.of_own hown2
      have at_ : ∀ (k : Nat) s, ls[k]? = some s → w2.cell? ⟨g2, k, none⟩ = some (.string s) := fun k s h => by
        have hk := lt_of_at h
        rw [HLL.out] at hk
        rw [hown2.cellAt k (by omega), strs, List.getElem?_map, h]; rfl
      obtain ⟨x0, x1, x2, x3, x4, x5, x6, x7, x8, x9, rfl⟩ : ∃ x0 x1 x2 x3 x4 x5 x6 x7 x8 x9, ls = [x0, x1, x2, x3, x4, x5, x6, x7, x8, x9] := by
        have hl := HLL.out
        match ls, hl with
        | [a, b, c, d, e, f, g, h, i, j], _ => exact ⟨a, b, c, d, e, f, g, h, i, j, rfl⟩
      have HQ5 := hide (at_ 5 x5 rfl)
      have HQ6 := hide (at_ 6 x6 rfl)
      have HQ7 := hide (at_ 7 x7 rfl)
      have HQ8 := hide (at_ 8 x8 rfl)
      have HQ9 := hide (at_ 9 x9 rfl)
      clear at_ hown2
      have hp := Sl.of_blk (size := 1) (n := 5) (Blk.new w2 56 #[.pointer (some ⟨w.heap.size + 1, 0, none⟩), .pointer (some ⟨w.heap.size + 1, 1, none⟩), .pointer (some ⟨w.heap.size + 1, 2, none⟩), .pointer (some ⟨w.heap.size + 1, 3, none⟩), .pointer (some ⟨w.heap.size + 1, 15, none⟩)]) rfl
      have hw2 : w1.heap.size ≤ g2 := hg2
      obtain ⟨zs, HZS⟩ : ∃ zs, Hid (wholes [x0, x1, x2, x3, x4] = zs) := ⟨_, rfl⟩
      have HKB2 := hide kb2
      have HKR2 := hide kr2
      have HBB := hide hbb
      have HS4 := hide hs4
      have HP := hide hp
      have hne2 : g2 ≠ w.heap.size + 1 := by omega
      have HW12 : Hid (w.heap.size + 1 < w2.heap.size) := by rw [Hid]; omega
      clear kb2 kr2 hbb hs4 hp
      go_wp2_with fail
      refine (wire_Read (os := [0, 1, 2, 3, 15]) (g := w.heap.size + 1) (r := zs) _ (HS4.out.alloc _) HP.out (HKB2.out.alloc _) (by omega) (by omega) (fun b off _ e => by injection e with e; injection e; omega) (fun b off _ e => by injection e with e; injection e; omega) (by simp) (fun s hs => HDOM.out s hs) HZS).mono ?_
      rintro e w3 ⟨rfl, hgr3, HB3⟩
      have HQ5b := hide (cell_grown2 (g := w.heap.size + 1) hgr3 (cell_kept (below_alloc' w2 _) HQ5.out) hne2)
      have HQ6b := hide (cell_grown2 (g := w.heap.size + 1) hgr3 (cell_kept (below_alloc' w2 _) HQ6.out) hne2)
      have HQ7b := hide (cell_grown2 (g := w.heap.size + 1) hgr3 (cell_kept (below_alloc' w2 _) HQ7.out) hne2)
      have HQ8b := hide (cell_grown2 (g := w.heap.size + 1) hgr3 (cell_kept (below_alloc' w2 _) HQ8.out) hne2)
      have HQ9b := hide (cell_grown2 (g := w.heap.size + 1) hgr3 (cell_kept (below_alloc' w2 _) HQ9.out) hne2)
      have KR3 := hide ((HKR2.out.alloc (.cells #[.pointer (some ⟨w.heap.size + 1, 0, none⟩), .pointer (some ⟨w.heap.size + 1, 1, none⟩), .pointer (some ⟨w.heap.size + 1, 2, none⟩), .pointer (some ⟨w.heap.size + 1, 3, none⟩), .pointer (some ⟨w.heap.size + 1, 15, none⟩)] 56)).grown hgr3 (by intro e; injection e with e; omega))
      have HW3 := hide (below_of_grown (HBB.out.alloc (by omega) (.cells #[.pointer (some ⟨w.heap.size + 1, 0, none⟩), .pointer (some ⟨w.heap.size + 1, 1, none⟩), .pointer (some ⟨w.heap.size + 1, 2, none⟩), .pointer (some ⟨w.heap.size + 1, 3, none⟩), .pointer (some ⟨w.heap.size + 1, 15, none⟩)] 56)) hgr3 (by simp; omega) (by omega))
      have hz3 := hgr3.size
      simp at hz3
      have HG3 : Hid (w.heap.size + 1 < w3.heap.size) := by rw [Hid]; omega
      cases zs with
      | none =>
        have HNO : Hid (r = none) := by rw [Hid, HRD.out, rdM_bad HZS.out]
        clear HB3 hgr3
        go_wp2_with fail
        go_step3
        repeat (first | refine Exit.then_goto ?_ | refine Exit.inBlock_goto ?_)
        exact Exit.jump_goto ⟨Frm.start rfl (by intro p hp; simp only [List.mem_cons, List.not_mem_nil, or_false] at hp; subst hp; rfl), KR3, HW3, HNO⟩
      | some zz =>
        obtain ⟨z0, z1, z2, z3, z4, rfl⟩ : ∃ z0 z1 z2 z3 z4, zz = [z0, z1, z2, z3, z4] := by
          have hl := wholes_len _ _ HZS.out
          match zz, hl with
          | [a, b, c, d, e], _ => exact ⟨a, b, c, d, e, rfl⟩
        have KB3 : Hid (Blk w3 (w.heap.size + 1) 32 #[.int .i64 z0, .int .i64 z1, .int .i64 z2, .int .i64 z3, .int .i64 0, .int .i64 0, .slice none 0 0, .int .i64 0, .int .i64 0, .slice none 0 0, .slice none 0 0, .int .i64 0, .int .i64 0, .slice none 0 0, .slice none 0 0, .int .i64 z4, .slice none 0 0, .slice none 0 0]) := HB3.out _ rfl
        have HRG : Hid (rdM [x0, x1, x2, x3, x4, x5, x6, x7, x8, x9] = some ⟨z0, z1, z2, z3, rdBt x5, rdHd x6, ⟨rdHd x7, z4, rdNs x8⟩, rdNs x9⟩) := rdM_good HZS.out
        have HRR := hide HRD.out
        rw [HRG.out] at HRR
        clear HB3 hgr3 HZS HRG HRD HQ5 HQ6 HQ7 HQ8 HQ9 HKB2 HKR2 HBB HS4 HP hz3 hsz1 hsz2 hsz12
        have D5 := hide (HDOM.out x5 (by simp))
        have D6 := hide (HDOM.out x6 (by simp))
        have D7 := hide (HDOM.out x7 (by simp))
        have D8 := hide (HDOM.out x8 (by simp))
        have D9 := hide (HDOM.out x9 (by simp))
        clear HDOM
        generalize hG : w.heap.size + 1 = g6 at HQ5b HQ6b HQ7b HQ8b HQ9b KR3 KB3 HG3 hne2 ⊢
        have HGG := hide hG
        clear hG
        obtain ⟨cap5, wa5, HCV5, sv5, hb5a, hcv5, hcm5⟩ := conv_bytes2 (P := Try.prog) w3 9 33 5 x5 Try.underlying9 Try.underlying33 Try.underlying5 D5.out
        have qq := HQ5b.out
        go_wp2_with fail
        refine (batch_rd _ sv5 hcv5 hcm5).mono ?_
        rintro e wb5 ⟨A5, n5, c5, er5, rfl, HR5, hb5b⟩
        clear qq HCV5 sv5 hcv5 hcm5
        have HGa5 := hide (Nat.lt_of_lt_of_le HG3.out hb5a.size)
        have hbc5 := below_then hb5a hb5b
        have HB5b := hide hb5b
        clear hb5b
        have HQ6_4 := hide (cell_kept hbc5 HQ6b.out)
        have HQ7_4 := hide (cell_kept hbc5 HQ7b.out)
        have HQ8_4 := hide (cell_kept hbc5 HQ8b.out)
        have HQ9_4 := hide (cell_kept hbc5 HQ9b.out)
        have KB_4 := hide (KB3.out.later hbc5)
        have KR_4 := hide (KR3.out.later hbc5)
        have HW_4 := hide (below_then HW3.out hbc5)
        have HG_4 : Hid (g6 < wb5.heap.size) := Nat.lt_of_lt_of_le HG3.out hbc5.size
        clear HQ6b HQ7b HQ8b HQ9b KB3 KR3 HW3 HG3
        have HNE5 := HGa5
        clear hbc5 hb5a
        have STX_0 := hide HR5.out.1
        have STX_n := hide (HR5.out.2.2.2.ne HNE5.out)
        have STX_m := hide (HR5.out.2.2.2.ne (show w.heap.size < wa5.heap.size by have := HGG.out; have := HNE5.out; omega))
        have k4 : wb5.cell? ⟨g6, 4, none⟩ = some (.int .i64 0) := KB_4.out.at_ rfl
        have f4 := KB_4.out.frozen 4
        have k5 : wb5.cell? ⟨g6, 5, none⟩ = some (.int .i64 0) := KB_4.out.at_ rfl
        have f5 := KB_4.out.frozen 5
        have k6 : wb5.cell? ⟨g6, 6, none⟩ = some (.slice none 0 0) := KB_4.out.at_ rfl
        have f6 := KB_4.out.frozen 6
        have HQ6_5 := hide (cell_set (i := 4) HQ6_4.out hne2 (.int .i64 (rdBt x5).a))
        have HQ7_5 := hide (cell_set (i := 4) HQ7_4.out hne2 (.int .i64 (rdBt x5).a))
        have HQ8_5 := hide (cell_set (i := 4) HQ8_4.out hne2 (.int .i64 (rdBt x5).a))
        have HQ9_5 := hide (cell_set (i := 4) HQ9_4.out hne2 (.int .i64 (rdBt x5).a))
        have KB_5 : Hid (Blk (wb5.setCell ⟨g6, 4, none⟩ (.int .i64 (rdBt x5).a)) g6 32 #[.int .i64 z0, .int .i64 z1, .int .i64 z2, .int .i64 z3, .int .i64 (rdBt x5).a, .int .i64 0, .slice none 0 0, .int .i64 0, .int .i64 0, .slice none 0 0, .slice none 0 0, .int .i64 0, .int .i64 0, .slice none 0 0, .slice none 0 0, .int .i64 z4, .slice none 0 0, .slice none 0 0]) := KB_4.out.set_ 4 (.int .i64 (rdBt x5).a)
        have KR_5 := hide (KR_4.out.far (p := ⟨g6, 4, none⟩) (by have := HGG.out; show w.heap.size ≠ g6; omega) (.int .i64 (rdBt x5).a))
        have HW_5 := hide (below_set' (i := 4) HW_4.out (by have := HGG.out; omega : w.heap.size ≤ g6) (.int .i64 (rdBt x5).a))
        have HG_5 : Hid (g6 < (wb5.setCell ⟨g6, 4, none⟩ (.int .i64 (rdBt x5).a)).heap.size) := by have := HG_4.out; simpa [Hid, World.setCell] using this
        have STX_5 := hide (STX_0.out.set_ (i := 4) STX_n.out (.int .i64 (rdBt x5).a))
        clear HQ6_4 HQ7_4 HQ8_4 HQ9_4 KB_4 KR_4 HW_4 HG_4 STX_0
        have HQ6_6 := hide (cell_set (i := 5) HQ6_5.out hne2 (.int .i64 (rdBt x5).n))
        have HQ7_6 := hide (cell_set (i := 5) HQ7_5.out hne2 (.int .i64 (rdBt x5).n))
        have HQ8_6 := hide (cell_set (i := 5) HQ8_5.out hne2 (.int .i64 (rdBt x5).n))
        have HQ9_6 := hide (cell_set (i := 5) HQ9_5.out hne2 (.int .i64 (rdBt x5).n))
        have KB_6 : Hid (Blk ((wb5.setCell ⟨g6, 4, none⟩ (.int .i64 (rdBt x5).a)).setCell ⟨g6, 5, none⟩ (.int .i64 (rdBt x5).n)) g6 32 #[.int .i64 z0, .int .i64 z1, .int .i64 z2, .int .i64 z3, .int .i64 (rdBt x5).a, .int .i64 (rdBt x5).n, .slice none 0 0, .int .i64 0, .int .i64 0, .slice none 0 0, .slice none 0 0, .int .i64 0, .int .i64 0, .slice none 0 0, .slice none 0 0, .int .i64 z4, .slice none 0 0, .slice none 0 0]) := KB_5.out.set_ 5 (.int .i64 (rdBt x5).n)
        have KR_6 := hide (KR_5.out.far (p := ⟨g6, 5, none⟩) (by have := HGG.out; show w.heap.size ≠ g6; omega) (.int .i64 (rdBt x5).n))
        have HW_6 := hide (below_set' (i := 5) HW_5.out (by have := HGG.out; omega : w.heap.size ≤ g6) (.int .i64 (rdBt x5).n))
        have HG_6 : Hid (g6 < ((wb5.setCell ⟨g6, 4, none⟩ (.int .i64 (rdBt x5).a)).setCell ⟨g6, 5, none⟩ (.int .i64 (rdBt x5).n)).heap.size) := by have := HG_5.out; simpa [Hid, World.setCell] using this
        have STX_6 := hide (STX_5.out.set_ (i := 5) STX_n.out (.int .i64 (rdBt x5).n))
        clear HQ6_5 HQ7_5 HQ8_5 HQ9_5 KB_5 KR_5 HW_5 HG_5 STX_5
        have HQ6_7 := hide (cell_set (i := 6) HQ6_6.out hne2 (.slice A5 n5 c5))
        have HQ7_7 := hide (cell_set (i := 6) HQ7_6.out hne2 (.slice A5 n5 c5))
        have HQ8_7 := hide (cell_set (i := 6) HQ8_6.out hne2 (.slice A5 n5 c5))
        have HQ9_7 := hide (cell_set (i := 6) HQ9_6.out hne2 (.slice A5 n5 c5))
        have KB_7 : Hid (Blk (((wb5.setCell ⟨g6, 4, none⟩ (.int .i64 (rdBt x5).a)).setCell ⟨g6, 5, none⟩ (.int .i64 (rdBt x5).n)).setCell ⟨g6, 6, none⟩ (.slice A5 n5 c5)) g6 32 #[.int .i64 z0, .int .i64 z1, .int .i64 z2, .int .i64 z3, .int .i64 (rdBt x5).a, .int .i64 (rdBt x5).n, .slice A5 n5 c5, .int .i64 0, .int .i64 0, .slice none 0 0, .slice none 0 0, .int .i64 0, .int .i64 0, .slice none 0 0, .slice none 0 0, .int .i64 z4, .slice none 0 0, .slice none 0 0]) := KB_6.out.set_ 6 (.slice A5 n5 c5)
        have KR_7 := hide (KR_6.out.far (p := ⟨g6, 6, none⟩) (by have := HGG.out; show w.heap.size ≠ g6; omega) (.slice A5 n5 c5))
        have HW_7 := hide (below_set' (i := 6) HW_6.out (by have := HGG.out; omega : w.heap.size ≤ g6) (.slice A5 n5 c5))
        have HG_7 : Hid (g6 < (((wb5.setCell ⟨g6, 4, none⟩ (.int .i64 (rdBt x5).a)).setCell ⟨g6, 5, none⟩ (.int .i64 (rdBt x5).n)).setCell ⟨g6, 6, none⟩ (.slice A5 n5 c5)).heap.size) := by have := HG_6.out; simpa [Hid, World.setCell] using this
        have STX_7 := hide (STX_6.out.set_ (i := 6) STX_n.out (.slice A5 n5 c5))
        clear HQ6_6 HQ7_6 HQ8_6 HQ9_6 KB_6 KR_6 HW_6 HG_6 STX_6
        go_upto_region 5 with fail
        clear k4 f4 k5 f5 k6 f6
        generalize (((wb5.setCell ⟨g6, 4, none⟩ (.int .i64 (rdBt x5).a)).setCell ⟨g6, 5, none⟩ (.int .i64 (rdBt x5).n)).setCell ⟨g6, 6, none⟩ (.slice A5 n5 c5)) = wc5 at HQ6_7 HQ7_7 HQ8_7 HQ9_7 KB_7 KR_7 HW_7 HG_7 STX_7 ⊢
        obtain ⟨cap6, wa6, HCV6, sv6, hb6a, hcv6, hcm6⟩ := conv_bytes2 (P := Try.prog) wc5 9 33 5 x6 Try.underlying9 Try.underlying33 Try.underlying5 D6.out
        have qq := HQ6_7.out
        go_wp2_with fail
        refine (header_rd _ sv6 hcv6 hcm6).mono ?_
        rintro e wb6 ⟨A6, n6, c6, B6, m6, d6, er6, rfl, HR6, hb6b⟩
        clear qq HCV6 sv6 hcv6 hcm6
        have HGa6 := hide (Nat.lt_of_lt_of_le HG_7.out hb6a.size)
        have hbc6 := below_then hb6a hb6b
        have HB6b := hide hb6b
        clear hb6b
        have HQ7_8 := hide (cell_kept hbc6 HQ7_7.out)
        have HQ8_8 := hide (cell_kept hbc6 HQ8_7.out)
        have HQ9_8 := hide (cell_kept hbc6 HQ9_7.out)
        have KB_8 := hide (KB_7.out.later hbc6)
        have KR_8 := hide (KR_7.out.later hbc6)
        have HW_8 := hide (below_then HW_7.out hbc6)
        have HG_8 : Hid (g6 < wb6.heap.size) := Nat.lt_of_lt_of_le HG_7.out hbc6.size
        have STX_8 := hide (STX_7.out.below hbc6)
        clear HQ7_7 HQ8_7 HQ9_7 KB_7 KR_7 HW_7 HG_7 STX_7
        have HNE6 := HGa6
        clear hbc6 hb6a
        have SHB_0 := hide HR6.out.1
        have SHB_n := hide (HR6.out.2.2.2.2.1.ne HNE6.out)
        have SHB_m := hide (HR6.out.2.2.2.2.1.ne (show w.heap.size < wa6.heap.size by have := HGG.out; have := HNE6.out; omega))
        have SHP_0 := hide HR6.out.2.1
        have SHP_n := hide (HR6.out.2.2.2.2.2.ne HNE6.out)
        have SHP_m := hide (HR6.out.2.2.2.2.2.ne (show w.heap.size < wa6.heap.size by have := HGG.out; have := HNE6.out; omega))
        have k7 : wb6.cell? ⟨g6, 7, none⟩ = some (.int .i64 0) := KB_8.out.at_ rfl
        have f7 := KB_8.out.frozen 7
        have k8 : wb6.cell? ⟨g6, 8, none⟩ = some (.int .i64 0) := KB_8.out.at_ rfl
        have f8 := KB_8.out.frozen 8
        have k9 : wb6.cell? ⟨g6, 9, none⟩ = some (.slice none 0 0) := KB_8.out.at_ rfl
        have f9 := KB_8.out.frozen 9
        have k10 : wb6.cell? ⟨g6, 10, none⟩ = some (.slice none 0 0) := KB_8.out.at_ rfl
        have f10 := KB_8.out.frozen 10
        have HQ7_9 := hide (cell_set (i := 7) HQ7_8.out hne2 (.int .i64 (rdHd x6).a))
        have HQ8_9 := hide (cell_set (i := 7) HQ8_8.out hne2 (.int .i64 (rdHd x6).a))
        have HQ9_9 := hide (cell_set (i := 7) HQ9_8.out hne2 (.int .i64 (rdHd x6).a))
        have KB_9 : Hid (Blk (wb6.setCell ⟨g6, 7, none⟩ (.int .i64 (rdHd x6).a)) g6 32 #[.int .i64 z0, .int .i64 z1, .int .i64 z2, .int .i64 z3, .int .i64 (rdBt x5).a, .int .i64 (rdBt x5).n, .slice A5 n5 c5, .int .i64 (rdHd x6).a, .int .i64 0, .slice none 0 0, .slice none 0 0, .int .i64 0, .int .i64 0, .slice none 0 0, .slice none 0 0, .int .i64 z4, .slice none 0 0, .slice none 0 0]) := KB_8.out.set_ 7 (.int .i64 (rdHd x6).a)
        have KR_9 := hide (KR_8.out.far (p := ⟨g6, 7, none⟩) (by have := HGG.out; show w.heap.size ≠ g6; omega) (.int .i64 (rdHd x6).a))
        have HW_9 := hide (below_set' (i := 7) HW_8.out (by have := HGG.out; omega : w.heap.size ≤ g6) (.int .i64 (rdHd x6).a))
        have HG_9 : Hid (g6 < (wb6.setCell ⟨g6, 7, none⟩ (.int .i64 (rdHd x6).a)).heap.size) := by have := HG_8.out; simpa [Hid, World.setCell] using this
        have STX_9 := hide (STX_8.out.set_ (i := 7) STX_n.out (.int .i64 (rdHd x6).a))
        have SHB_9 := hide (SHB_0.out.set_ (i := 7) SHB_n.out (.int .i64 (rdHd x6).a))
        have SHP_9 := hide (SHP_0.out.set_ (i := 7) SHP_n.out (.int .i64 (rdHd x6).a))
        clear HQ7_8 HQ8_8 HQ9_8 KB_8 KR_8 HW_8 HG_8 STX_8 SHB_0 SHP_0
        have HQ7_10 := hide (cell_set (i := 8) HQ7_9.out hne2 (.int .i64 (rdHd x6).r))
        have HQ8_10 := hide (cell_set (i := 8) HQ8_9.out hne2 (.int .i64 (rdHd x6).r))
        have HQ9_10 := hide (cell_set (i := 8) HQ9_9.out hne2 (.int .i64 (rdHd x6).r))
        have KB_10 : Hid (Blk ((wb6.setCell ⟨g6, 7, none⟩ (.int .i64 (rdHd x6).a)).setCell ⟨g6, 8, none⟩ (.int .i64 (rdHd x6).r)) g6 32 #[.int .i64 z0, .int .i64 z1, .int .i64 z2, .int .i64 z3, .int .i64 (rdBt x5).a, .int .i64 (rdBt x5).n, .slice A5 n5 c5, .int .i64 (rdHd x6).a, .int .i64 (rdHd x6).r, .slice none 0 0, .slice none 0 0, .int .i64 0, .int .i64 0, .slice none 0 0, .slice none 0 0, .int .i64 z4, .slice none 0 0, .slice none 0 0]) := KB_9.out.set_ 8 (.int .i64 (rdHd x6).r)
        have KR_10 := hide (KR_9.out.far (p := ⟨g6, 8, none⟩) (by have := HGG.out; show w.heap.size ≠ g6; omega) (.int .i64 (rdHd x6).r))
        have HW_10 := hide (below_set' (i := 8) HW_9.out (by have := HGG.out; omega : w.heap.size ≤ g6) (.int .i64 (rdHd x6).r))
        have HG_10 : Hid (g6 < ((wb6.setCell ⟨g6, 7, none⟩ (.int .i64 (rdHd x6).a)).setCell ⟨g6, 8, none⟩ (.int .i64 (rdHd x6).r)).heap.size) := by have := HG_9.out; simpa [Hid, World.setCell] using this
        have STX_10 := hide (STX_9.out.set_ (i := 8) STX_n.out (.int .i64 (rdHd x6).r))
        have SHB_10 := hide (SHB_9.out.set_ (i := 8) SHB_n.out (.int .i64 (rdHd x6).r))
        have SHP_10 := hide (SHP_9.out.set_ (i := 8) SHP_n.out (.int .i64 (rdHd x6).r))
        clear HQ7_9 HQ8_9 HQ9_9 KB_9 KR_9 HW_9 HG_9 STX_9 SHB_9 SHP_9
        have HQ7_11 := hide (cell_set (i := 9) HQ7_10.out hne2 (.slice A6 n6 c6))
        have HQ8_11 := hide (cell_set (i := 9) HQ8_10.out hne2 (.slice A6 n6 c6))
        have HQ9_11 := hide (cell_set (i := 9) HQ9_10.out hne2 (.slice A6 n6 c6))
        have KB_11 : Hid (Blk (((wb6.setCell ⟨g6, 7, none⟩ (.int .i64 (rdHd x6).a)).setCell ⟨g6, 8, none⟩ (.int .i64 (rdHd x6).r)).setCell ⟨g6, 9, none⟩ (.slice A6 n6 c6)) g6 32 #[.int .i64 z0, .int .i64 z1, .int .i64 z2, .int .i64 z3, .int .i64 (rdBt x5).a, .int .i64 (rdBt x5).n, .slice A5 n5 c5, .int .i64 (rdHd x6).a, .int .i64 (rdHd x6).r, .slice A6 n6 c6, .slice none 0 0, .int .i64 0, .int .i64 0, .slice none 0 0, .slice none 0 0, .int .i64 z4, .slice none 0 0, .slice none 0 0]) := KB_10.out.set_ 9 (.slice A6 n6 c6)
        have KR_11 := hide (KR_10.out.far (p := ⟨g6, 9, none⟩) (by have := HGG.out; show w.heap.size ≠ g6; omega) (.slice A6 n6 c6))
        have HW_11 := hide (below_set' (i := 9) HW_10.out (by have := HGG.out; omega : w.heap.size ≤ g6) (.slice A6 n6 c6))
        have HG_11 : Hid (g6 < (((wb6.setCell ⟨g6, 7, none⟩ (.int .i64 (rdHd x6).a)).setCell ⟨g6, 8, none⟩ (.int .i64 (rdHd x6).r)).setCell ⟨g6, 9, none⟩ (.slice A6 n6 c6)).heap.size) := by have := HG_10.out; simpa [Hid, World.setCell] using this
        have STX_11 := hide (STX_10.out.set_ (i := 9) STX_n.out (.slice A6 n6 c6))
        have SHB_11 := hide (SHB_10.out.set_ (i := 9) SHB_n.out (.slice A6 n6 c6))
        have SHP_11 := hide (SHP_10.out.set_ (i := 9) SHP_n.out (.slice A6 n6 c6))
        clear HQ7_10 HQ8_10 HQ9_10 KB_10 KR_10 HW_10 HG_10 STX_10 SHB_10 SHP_10
        have HQ7_12 := hide (cell_set (i := 10) HQ7_11.out hne2 (.slice B6 m6 d6))
        have HQ8_12 := hide (cell_set (i := 10) HQ8_11.out hne2 (.slice B6 m6 d6))
        have HQ9_12 := hide (cell_set (i := 10) HQ9_11.out hne2 (.slice B6 m6 d6))
        have KB_12 : Hid (Blk ((((wb6.setCell ⟨g6, 7, none⟩ (.int .i64 (rdHd x6).a)).setCell ⟨g6, 8, none⟩ (.int .i64 (rdHd x6).r)).setCell ⟨g6, 9, none⟩ (.slice A6 n6 c6)).setCell ⟨g6, 10, none⟩ (.slice B6 m6 d6)) g6 32 #[.int .i64 z0, .int .i64 z1, .int .i64 z2, .int .i64 z3, .int .i64 (rdBt x5).a, .int .i64 (rdBt x5).n, .slice A5 n5 c5, .int .i64 (rdHd x6).a, .int .i64 (rdHd x6).r, .slice A6 n6 c6, .slice B6 m6 d6, .int .i64 0, .int .i64 0, .slice none 0 0, .slice none 0 0, .int .i64 z4, .slice none 0 0, .slice none 0 0]) := KB_11.out.set_ 10 (.slice B6 m6 d6)
        have KR_12 := hide (KR_11.out.far (p := ⟨g6, 10, none⟩) (by have := HGG.out; show w.heap.size ≠ g6; omega) (.slice B6 m6 d6))
        have HW_12 := hide (below_set' (i := 10) HW_11.out (by have := HGG.out; omega : w.heap.size ≤ g6) (.slice B6 m6 d6))
        have HG_12 : Hid (g6 < ((((wb6.setCell ⟨g6, 7, none⟩ (.int .i64 (rdHd x6).a)).setCell ⟨g6, 8, none⟩ (.int .i64 (rdHd x6).r)).setCell ⟨g6, 9, none⟩ (.slice A6 n6 c6)).setCell ⟨g6, 10, none⟩ (.slice B6 m6 d6)).heap.size) := by have := HG_11.out; simpa [Hid, World.setCell] using this
        have STX_12 := hide (STX_11.out.set_ (i := 10) STX_n.out (.slice B6 m6 d6))
        have SHB_12 := hide (SHB_11.out.set_ (i := 10) SHB_n.out (.slice B6 m6 d6))
        have SHP_12 := hide (SHP_11.out.set_ (i := 10) SHP_n.out (.slice B6 m6 d6))
        clear HQ7_11 HQ8_11 HQ9_11 KB_11 KR_11 HW_11 HG_11 STX_11 SHB_11 SHP_11
        go_upto_region 6 with fail
        clear k7 f7 k8 f8 k9 f9 k10 f10
        generalize ((((wb6.setCell ⟨g6, 7, none⟩ (.int .i64 (rdHd x6).a)).setCell ⟨g6, 8, none⟩ (.int .i64 (rdHd x6).r)).setCell ⟨g6, 9, none⟩ (.slice A6 n6 c6)).setCell ⟨g6, 10, none⟩ (.slice B6 m6 d6)) = wc6 at HQ7_12 HQ8_12 HQ9_12 KB_12 KR_12 HW_12 HG_12 STX_12 SHB_12 SHP_12 ⊢
        obtain ⟨cap7, wa7, HCV7, sv7, hb7a, hcv7, hcm7⟩ := conv_bytes2 (P := Try.prog) wc6 9 33 5 x7 Try.underlying9 Try.underlying33 Try.underlying5 D7.out
        have qq := HQ7_12.out
        go_wp2_with fail
        refine (header_rd _ sv7 hcv7 hcm7).mono ?_
        rintro e wb7 ⟨A7, n7, c7, B7, m7, d7, er7, rfl, HR7, hb7b⟩
        clear qq HCV7 sv7 hcv7 hcm7
        have HGa7 := hide (Nat.lt_of_lt_of_le HG_12.out hb7a.size)
        have hbc7 := below_then hb7a hb7b
        have HB7b := hide hb7b
        clear hb7b
        have HQ8_13 := hide (cell_kept hbc7 HQ8_12.out)
        have HQ9_13 := hide (cell_kept hbc7 HQ9_12.out)
        have KB_13 := hide (KB_12.out.later hbc7)
        have KR_13 := hide (KR_12.out.later hbc7)
        have HW_13 := hide (below_then HW_12.out hbc7)
        have HG_13 : Hid (g6 < wb7.heap.size) := Nat.lt_of_lt_of_le HG_12.out hbc7.size
        have STX_13 := hide (STX_12.out.below hbc7)
        have SHB_13 := hide (SHB_12.out.below hbc7)
        have SHP_13 := hide (SHP_12.out.below hbc7)
        clear HQ8_12 HQ9_12 KB_12 KR_12 HW_12 HG_12 STX_12 SHB_12 SHP_12
        have HNE7 := HGa7
        clear hbc7 hb7a
        have SCB_0 := hide HR7.out.1
        have SCB_n := hide (HR7.out.2.2.2.2.1.ne HNE7.out)
        have SCB_m := hide (HR7.out.2.2.2.2.1.ne (show w.heap.size < wa7.heap.size by have := HGG.out; have := HNE7.out; omega))
        have SCP_0 := hide HR7.out.2.1
        have SCP_n := hide (HR7.out.2.2.2.2.2.ne HNE7.out)
        have SCP_m := hide (HR7.out.2.2.2.2.2.ne (show w.heap.size < wa7.heap.size by have := HGG.out; have := HNE7.out; omega))
        have k11 : wb7.cell? ⟨g6, 11, none⟩ = some (.int .i64 0) := KB_13.out.at_ rfl
        have f11 := KB_13.out.frozen 11
        have k12 : wb7.cell? ⟨g6, 12, none⟩ = some (.int .i64 0) := KB_13.out.at_ rfl
        have f12 := KB_13.out.frozen 12
        have k13 : wb7.cell? ⟨g6, 13, none⟩ = some (.slice none 0 0) := KB_13.out.at_ rfl
        have f13 := KB_13.out.frozen 13
        have k14 : wb7.cell? ⟨g6, 14, none⟩ = some (.slice none 0 0) := KB_13.out.at_ rfl
        have f14 := KB_13.out.frozen 14
        have HQ8_14 := hide (cell_set (i := 11) HQ8_13.out hne2 (.int .i64 (rdHd x7).a))
        have HQ9_14 := hide (cell_set (i := 11) HQ9_13.out hne2 (.int .i64 (rdHd x7).a))
        have KB_14 : Hid (Blk (wb7.setCell ⟨g6, 11, none⟩ (.int .i64 (rdHd x7).a)) g6 32 #[.int .i64 z0, .int .i64 z1, .int .i64 z2, .int .i64 z3, .int .i64 (rdBt x5).a, .int .i64 (rdBt x5).n, .slice A5 n5 c5, .int .i64 (rdHd x6).a, .int .i64 (rdHd x6).r, .slice A6 n6 c6, .slice B6 m6 d6, .int .i64 (rdHd x7).a, .int .i64 0, .slice none 0 0, .slice none 0 0, .int .i64 z4, .slice none 0 0, .slice none 0 0]) := KB_13.out.set_ 11 (.int .i64 (rdHd x7).a)
        have KR_14 := hide (KR_13.out.far (p := ⟨g6, 11, none⟩) (by have := HGG.out; show w.heap.size ≠ g6; omega) (.int .i64 (rdHd x7).a))
        have HW_14 := hide (below_set' (i := 11) HW_13.out (by have := HGG.out; omega : w.heap.size ≤ g6) (.int .i64 (rdHd x7).a))
        have HG_14 : Hid (g6 < (wb7.setCell ⟨g6, 11, none⟩ (.int .i64 (rdHd x7).a)).heap.size) := by have := HG_13.out; simpa [Hid, World.setCell] using this
        have STX_14 := hide (STX_13.out.set_ (i := 11) STX_n.out (.int .i64 (rdHd x7).a))
        have SHB_14 := hide (SHB_13.out.set_ (i := 11) SHB_n.out (.int .i64 (rdHd x7).a))
        have SHP_14 := hide (SHP_13.out.set_ (i := 11) SHP_n.out (.int .i64 (rdHd x7).a))
        have SCB_14 := hide (SCB_0.out.set_ (i := 11) SCB_n.out (.int .i64 (rdHd x7).a))
        have SCP_14 := hide (SCP_0.out.set_ (i := 11) SCP_n.out (.int .i64 (rdHd x7).a))
        clear HQ8_13 HQ9_13 KB_13 KR_13 HW_13 HG_13 STX_13 SHB_13 SHP_13 SCB_0 SCP_0
        have HQ8_15 := hide (cell_set (i := 12) HQ8_14.out hne2 (.int .i64 (rdHd x7).r))
        have HQ9_15 := hide (cell_set (i := 12) HQ9_14.out hne2 (.int .i64 (rdHd x7).r))
        have KB_15 : Hid (Blk ((wb7.setCell ⟨g6, 11, none⟩ (.int .i64 (rdHd x7).a)).setCell ⟨g6, 12, none⟩ (.int .i64 (rdHd x7).r)) g6 32 #[.int .i64 z0, .int .i64 z1, .int .i64 z2, .int .i64 z3, .int .i64 (rdBt x5).a, .int .i64 (rdBt x5).n, .slice A5 n5 c5, .int .i64 (rdHd x6).a, .int .i64 (rdHd x6).r, .slice A6 n6 c6, .slice B6 m6 d6, .int .i64 (rdHd x7).a, .int .i64 (rdHd x7).r, .slice none 0 0, .slice none 0 0, .int .i64 z4, .slice none 0 0, .slice none 0 0]) := KB_14.out.set_ 12 (.int .i64 (rdHd x7).r)
        have KR_15 := hide (KR_14.out.far (p := ⟨g6, 12, none⟩) (by have := HGG.out; show w.heap.size ≠ g6; omega) (.int .i64 (rdHd x7).r))
        have HW_15 := hide (below_set' (i := 12) HW_14.out (by have := HGG.out; omega : w.heap.size ≤ g6) (.int .i64 (rdHd x7).r))
        have HG_15 : Hid (g6 < ((wb7.setCell ⟨g6, 11, none⟩ (.int .i64 (rdHd x7).a)).setCell ⟨g6, 12, none⟩ (.int .i64 (rdHd x7).r)).heap.size) := by have := HG_14.out; simpa [Hid, World.setCell] using this
        have STX_15 := hide (STX_14.out.set_ (i := 12) STX_n.out (.int .i64 (rdHd x7).r))
        have SHB_15 := hide (SHB_14.out.set_ (i := 12) SHB_n.out (.int .i64 (rdHd x7).r))
        have SHP_15 := hide (SHP_14.out.set_ (i := 12) SHP_n.out (.int .i64 (rdHd x7).r))
        have SCB_15 := hide (SCB_14.out.set_ (i := 12) SCB_n.out (.int .i64 (rdHd x7).r))
        have SCP_15 := hide (SCP_14.out.set_ (i := 12) SCP_n.out (.int .i64 (rdHd x7).r))
        clear HQ8_14 HQ9_14 KB_14 KR_14 HW_14 HG_14 STX_14 SHB_14 SHP_14 SCB_14 SCP_14
        have HQ8_16 := hide (cell_set (i := 13) HQ8_15.out hne2 (.slice A7 n7 c7))
        have HQ9_16 := hide (cell_set (i := 13) HQ9_15.out hne2 (.slice A7 n7 c7))
        have KB_16 : Hid (Blk (((wb7.setCell ⟨g6, 11, none⟩ (.int .i64 (rdHd x7).a)).setCell ⟨g6, 12, none⟩ (.int .i64 (rdHd x7).r)).setCell ⟨g6, 13, none⟩ (.slice A7 n7 c7)) g6 32 #[.int .i64 z0, .int .i64 z1, .int .i64 z2, .int .i64 z3, .int .i64 (rdBt x5).a, .int .i64 (rdBt x5).n, .slice A5 n5 c5, .int .i64 (rdHd x6).a, .int .i64 (rdHd x6).r, .slice A6 n6 c6, .slice B6 m6 d6, .int .i64 (rdHd x7).a, .int .i64 (rdHd x7).r, .slice A7 n7 c7, .slice none 0 0, .int .i64 z4, .slice none 0 0, .slice none 0 0]) := KB_15.out.set_ 13 (.slice A7 n7 c7)
        have KR_16 := hide (KR_15.out.far (p := ⟨g6, 13, none⟩) (by have := HGG.out; show w.heap.size ≠ g6; omega) (.slice A7 n7 c7))
        have HW_16 := hide (below_set' (i := 13) HW_15.out (by have := HGG.out; omega : w.heap.size ≤ g6) (.slice A7 n7 c7))
        have HG_16 : Hid (g6 < (((wb7.setCell ⟨g6, 11, none⟩ (.int .i64 (rdHd x7).a)).setCell ⟨g6, 12, none⟩ (.int .i64 (rdHd x7).r)).setCell ⟨g6, 13, none⟩ (.slice A7 n7 c7)).heap.size) := by have := HG_15.out; simpa [Hid, World.setCell] using this
        have STX_16 := hide (STX_15.out.set_ (i := 13) STX_n.out (.slice A7 n7 c7))
        have SHB_16 := hide (SHB_15.out.set_ (i := 13) SHB_n.out (.slice A7 n7 c7))
        have SHP_16 := hide (SHP_15.out.set_ (i := 13) SHP_n.out (.slice A7 n7 c7))
        have SCB_16 := hide (SCB_15.out.set_ (i := 13) SCB_n.out (.slice A7 n7 c7))
        have SCP_16 := hide (SCP_15.out.set_ (i := 13) SCP_n.out (.slice A7 n7 c7))
        clear HQ8_15 HQ9_15 KB_15 KR_15 HW_15 HG_15 STX_15 SHB_15 SHP_15 SCB_15 SCP_15
        have HQ8_17 := hide (cell_set (i := 14) HQ8_16.out hne2 (.slice B7 m7 d7))
        have HQ9_17 := hide (cell_set (i := 14) HQ9_16.out hne2 (.slice B7 m7 d7))
        have KB_17 : Hid (Blk ((((wb7.setCell ⟨g6, 11, none⟩ (.int .i64 (rdHd x7).a)).setCell ⟨g6, 12, none⟩ (.int .i64 (rdHd x7).r)).setCell ⟨g6, 13, none⟩ (.slice A7 n7 c7)).setCell ⟨g6, 14, none⟩ (.slice B7 m7 d7)) g6 32 #[.int .i64 z0, .int .i64 z1, .int .i64 z2, .int .i64 z3, .int .i64 (rdBt x5).a, .int .i64 (rdBt x5).n, .slice A5 n5 c5, .int .i64 (rdHd x6).a, .int .i64 (rdHd x6).r, .slice A6 n6 c6, .slice B6 m6 d6, .int .i64 (rdHd x7).a, .int .i64 (rdHd x7).r, .slice A7 n7 c7, .slice B7 m7 d7, .int .i64 z4, .slice none 0 0, .slice none 0 0]) := KB_16.out.set_ 14 (.slice B7 m7 d7)
        have KR_17 := hide (KR_16.out.far (p := ⟨g6, 14, none⟩) (by have := HGG.out; show w.heap.size ≠ g6; omega) (.slice B7 m7 d7))
        have HW_17 := hide (below_set' (i := 14) HW_16.out (by have := HGG.out; omega : w.heap.size ≤ g6) (.slice B7 m7 d7))
        have HG_17 : Hid (g6 < ((((wb7.setCell ⟨g6, 11, none⟩ (.int .i64 (rdHd x7).a)).setCell ⟨g6, 12, none⟩ (.int .i64 (rdHd x7).r)).setCell ⟨g6, 13, none⟩ (.slice A7 n7 c7)).setCell ⟨g6, 14, none⟩ (.slice B7 m7 d7)).heap.size) := by have := HG_16.out; simpa [Hid, World.setCell] using this
        have STX_17 := hide (STX_16.out.set_ (i := 14) STX_n.out (.slice B7 m7 d7))
        have SHB_17 := hide (SHB_16.out.set_ (i := 14) SHB_n.out (.slice B7 m7 d7))
        have SHP_17 := hide (SHP_16.out.set_ (i := 14) SHP_n.out (.slice B7 m7 d7))
        have SCB_17 := hide (SCB_16.out.set_ (i := 14) SCB_n.out (.slice B7 m7 d7))
        have SCP_17 := hide (SCP_16.out.set_ (i := 14) SCP_n.out (.slice B7 m7 d7))
        clear HQ8_16 HQ9_16 KB_16 KR_16 HW_16 HG_16 STX_16 SHB_16 SHP_16 SCB_16 SCP_16
        go_upto_region 7 with fail
        clear k11 f11 k12 f12 k13 f13 k14 f14
        generalize ((((wb7.setCell ⟨g6, 11, none⟩ (.int .i64 (rdHd x7).a)).setCell ⟨g6, 12, none⟩ (.int .i64 (rdHd x7).r)).setCell ⟨g6, 13, none⟩ (.slice A7 n7 c7)).setCell ⟨g6, 14, none⟩ (.slice B7 m7 d7)) = wc7 at HQ8_17 HQ9_17 KB_17 KR_17 HW_17 HG_17 STX_17 SHB_17 SHP_17 SCB_17 SCP_17 ⊢
        obtain ⟨cap8, wa8, HCV8, sv8, hb8a, hcv8, hcm8⟩ := conv_bytes2 (P := Try.prog) wc7 9 33 5 x8 Try.underlying9 Try.underlying33 Try.underlying5 D8.out
        have qq := HQ8_17.out
        go_wp2_with fail
        refine (nums_rd _ sv8 hcv8 hcm8).mono ?_
        rintro e wb8 ⟨A8, n8, c8, er8, rfl, HR8, hb8b⟩
        clear qq HCV8 sv8 hcv8 hcm8
        have HGa8 := hide (Nat.lt_of_lt_of_le HG_17.out hb8a.size)
        have hbc8 := below_then hb8a hb8b
        have HB8b := hide hb8b
        clear hb8b
        have HQ9_18 := hide (cell_kept hbc8 HQ9_17.out)
        have KB_18 := hide (KB_17.out.later hbc8)
        have KR_18 := hide (KR_17.out.later hbc8)
        have HW_18 := hide (below_then HW_17.out hbc8)
        have HG_18 : Hid (g6 < wb8.heap.size) := Nat.lt_of_lt_of_le HG_17.out hbc8.size
        have STX_18 := hide (STX_17.out.below hbc8)
        have SHB_18 := hide (SHB_17.out.below hbc8)
        have SHP_18 := hide (SHP_17.out.below hbc8)
        have SCB_18 := hide (SCB_17.out.below hbc8)
        have SCP_18 := hide (SCP_17.out.below hbc8)
        clear HQ9_17 KB_17 KR_17 HW_17 HG_17 STX_17 SHB_17 SHP_17 SCB_17 SCP_17
        have HNE8 := HGa8
        clear hbc8 hb8a
        have SCS_0 := hide HR8.out.1
        have SCS_n := hide (HR8.out.2.2.ne HNE8.out)
        have SCS_m := hide (HR8.out.2.2.ne (show w.heap.size < wa8.heap.size by have := HGG.out; have := HNE8.out; omega))
        have k16 : wb8.cell? ⟨g6, 16, none⟩ = some (.slice none 0 0) := KB_18.out.at_ rfl
        have f16 := KB_18.out.frozen 16
        have HQ9_19 := hide (cell_set (i := 16) HQ9_18.out hne2 (.slice A8 n8 c8))
        have KB_19 : Hid (Blk (wb8.setCell ⟨g6, 16, none⟩ (.slice A8 n8 c8)) g6 32 #[.int .i64 z0, .int .i64 z1, .int .i64 z2, .int .i64 z3, .int .i64 (rdBt x5).a, .int .i64 (rdBt x5).n, .slice A5 n5 c5, .int .i64 (rdHd x6).a, .int .i64 (rdHd x6).r, .slice A6 n6 c6, .slice B6 m6 d6, .int .i64 (rdHd x7).a, .int .i64 (rdHd x7).r, .slice A7 n7 c7, .slice B7 m7 d7, .int .i64 z4, .slice A8 n8 c8, .slice none 0 0]) := KB_18.out.set_ 16 (.slice A8 n8 c8)
        have KR_19 := hide (KR_18.out.far (p := ⟨g6, 16, none⟩) (by have := HGG.out; show w.heap.size ≠ g6; omega) (.slice A8 n8 c8))
        have HW_19 := hide (below_set' (i := 16) HW_18.out (by have := HGG.out; omega : w.heap.size ≤ g6) (.slice A8 n8 c8))
        have HG_19 : Hid (g6 < (wb8.setCell ⟨g6, 16, none⟩ (.slice A8 n8 c8)).heap.size) := by have := HG_18.out; simpa [Hid, World.setCell] using this
        have STX_19 := hide (STX_18.out.set_ (i := 16) STX_n.out (.slice A8 n8 c8))
        have SHB_19 := hide (SHB_18.out.set_ (i := 16) SHB_n.out (.slice A8 n8 c8))
        have SHP_19 := hide (SHP_18.out.set_ (i := 16) SHP_n.out (.slice A8 n8 c8))
        have SCB_19 := hide (SCB_18.out.set_ (i := 16) SCB_n.out (.slice A8 n8 c8))
        have SCP_19 := hide (SCP_18.out.set_ (i := 16) SCP_n.out (.slice A8 n8 c8))
        have SCS_19 := hide (SCS_0.out.set_ (i := 16) SCS_n.out (.slice A8 n8 c8))
        clear HQ9_18 KB_18 KR_18 HW_18 HG_18 STX_18 SHB_18 SHP_18 SCB_18 SCP_18 SCS_0
        go_upto_region 8 with fail
        clear k16 f16
        generalize (wb8.setCell ⟨g6, 16, none⟩ (.slice A8 n8 c8)) = wc8 at HQ9_19 KB_19 KR_19 HW_19 HG_19 STX_19 SHB_19 SHP_19 SCB_19 SCP_19 SCS_19 ⊢
        obtain ⟨cap9, wa9, HCV9, sv9, hb9a, hcv9, hcm9⟩ := conv_bytes2 (P := Try.prog) wc8 9 33 5 x9 Try.underlying9 Try.underlying33 Try.underlying5 D9.out
        have qq := HQ9_19.out
        go_wp2_with fail
        refine (nums_rd _ sv9 hcv9 hcm9).mono ?_
        rintro e wb9 ⟨A9, n9, c9, er9, rfl, HR9, hb9b⟩
        clear qq HCV9 sv9 hcv9 hcm9
        have HGa9 := hide (Nat.lt_of_lt_of_le HG_19.out hb9a.size)
        have hbc9 := below_then hb9a hb9b
        have HB9b := hide hb9b
        clear hb9b
        have KB_20 := hide (KB_19.out.later hbc9)
        have KR_20 := hide (KR_19.out.later hbc9)
        have HW_20 := hide (below_then HW_19.out hbc9)
        have HG_20 : Hid (g6 < wb9.heap.size) := Nat.lt_of_lt_of_le HG_19.out hbc9.size
        have STX_20 := hide (STX_19.out.below hbc9)
        have SHB_20 := hide (SHB_19.out.below hbc9)
        have SHP_20 := hide (SHP_19.out.below hbc9)
        have SCB_20 := hide (SCB_19.out.below hbc9)
        have SCP_20 := hide (SCP_19.out.below hbc9)
        have SCS_20 := hide (SCS_19.out.below hbc9)
        clear KB_19 KR_19 HW_19 HG_19 STX_19 SHB_19 SHP_19 SCB_19 SCP_19 SCS_19
        have HNE9 := HGa9
        clear hbc9 hb9a
        have SDS_0 := hide HR9.out.1
        have SDS_n := hide (HR9.out.2.2.ne HNE9.out)
        have SDS_m := hide (HR9.out.2.2.ne (show w.heap.size < wa9.heap.size by have := HGG.out; have := HNE9.out; omega))
        have k17 : wb9.cell? ⟨g6, 17, none⟩ = some (.slice none 0 0) := KB_20.out.at_ rfl
        have f17 := KB_20.out.frozen 17
        have KB_21 : Hid (Blk (wb9.setCell ⟨g6, 17, none⟩ (.slice A9 n9 c9)) g6 32 #[.int .i64 z0, .int .i64 z1, .int .i64 z2, .int .i64 z3, .int .i64 (rdBt x5).a, .int .i64 (rdBt x5).n, .slice A5 n5 c5, .int .i64 (rdHd x6).a, .int .i64 (rdHd x6).r, .slice A6 n6 c6, .slice B6 m6 d6, .int .i64 (rdHd x7).a, .int .i64 (rdHd x7).r, .slice A7 n7 c7, .slice B7 m7 d7, .int .i64 z4, .slice A8 n8 c8, .slice A9 n9 c9]) := KB_20.out.set_ 17 (.slice A9 n9 c9)
        have KR_21 := hide (KR_20.out.far (p := ⟨g6, 17, none⟩) (by have := HGG.out; show w.heap.size ≠ g6; omega) (.slice A9 n9 c9))
        have HW_21 := hide (below_set' (i := 17) HW_20.out (by have := HGG.out; omega : w.heap.size ≤ g6) (.slice A9 n9 c9))
        have HG_21 : Hid (g6 < (wb9.setCell ⟨g6, 17, none⟩ (.slice A9 n9 c9)).heap.size) := by have := HG_20.out; simpa [Hid, World.setCell] using this
        have STX_21 := hide (STX_20.out.set_ (i := 17) STX_n.out (.slice A9 n9 c9))
        have SHB_21 := hide (SHB_20.out.set_ (i := 17) SHB_n.out (.slice A9 n9 c9))
        have SHP_21 := hide (SHP_20.out.set_ (i := 17) SHP_n.out (.slice A9 n9 c9))
        have SCB_21 := hide (SCB_20.out.set_ (i := 17) SCB_n.out (.slice A9 n9 c9))
        have SCP_21 := hide (SCP_20.out.set_ (i := 17) SCP_n.out (.slice A9 n9 c9))
        have SCS_21 := hide (SCS_20.out.set_ (i := 17) SCS_n.out (.slice A9 n9 c9))
        have SDS_21 := hide (SDS_0.out.set_ (i := 17) SDS_n.out (.slice A9 n9 c9))
        clear KB_20 KR_20 HW_20 HG_20 STX_20 SHB_20 SHP_20 SCB_20 SCP_20 SCS_20 SDS_0
        go_upto_region 9 with fail
        clear k17 f17
        generalize (wb9.setCell ⟨g6, 17, none⟩ (.slice A9 n9 c9)) = wc9 at KB_21 KR_21 HW_21 HG_21 STX_21 SHB_21 SHP_21 SCB_21 SCP_21 SCS_21 SDS_21 ⊢
        have HMS : Hid (MsS wc9 (⟨z0, z1, z2, z3, rdBt x5, rdHd x6, ⟨rdHd x7, z4, rdNs x8⟩, rdNs x9⟩ : MsD) (⟨⟨A5, n5, c5⟩, ⟨A6, n6, c6⟩, ⟨B6, m6, d6⟩, ⟨A7, n7, c7⟩, ⟨B7, m7, d7⟩, ⟨A8, n8, c8⟩, ⟨A9, n9, c9⟩⟩ : MsV)) := ⟨STX_21.out, SHB_21.out, SHP_21.out, SCB_21.out, SCP_21.out, SCS_21.out, SDS_21.out⟩
        have HMZ : Hid (MsZ (⟨z0, z1, z2, z3, rdBt x5, rdHd x6, ⟨rdHd x7, z4, rdNs x8⟩, rdNs x9⟩ : MsD) (⟨⟨A5, n5, c5⟩, ⟨A6, n6, c6⟩, ⟨B6, m6, d6⟩, ⟨A7, n7, c7⟩, ⟨B7, m7, d7⟩, ⟨A8, n8, c8⟩, ⟨A9, n9, c9⟩⟩ : MsV)) := ⟨HR5.out.2.1, HR5.out.2.2.1, HR6.out.2.2.1, HR6.out.2.2.2.1, HR7.out.2.2.1, HR7.out.2.2.2.1, HR8.out.2.1, HR9.out.2.1⟩
        obtain ⟨C, HC0⟩ : ∃ C : Array Value, Hid (C = #[.int .i64 z0, .int .i64 z1, .int .i64 z2, .int .i64 z3, .int .i64 (rdBt x5).a, .int .i64 (rdBt x5).n, .slice A5 n5 c5, .int .i64 (rdHd x6).a, .int .i64 (rdHd x6).r, .slice A6 n6 c6, .slice B6 m6 d6, .int .i64 (rdHd x7).a, .int .i64 (rdHd x7).r, .slice A7 n7 c7, .slice B7 m7 d7, .int .i64 z4, .slice A8 n8 c8, .slice A9 n9 c9]) := ⟨_, rfl⟩
        have HC : Hid (C = msC (⟨z0, z1, z2, z3, rdBt x5, rdHd x6, ⟨rdHd x7, z4, rdNs x8⟩, rdNs x9⟩ : MsD) (⟨⟨A5, n5, c5⟩, ⟨A6, n6, c6⟩, ⟨B6, m6, d6⟩, ⟨A7, n7, c7⟩, ⟨B7, m7, d7⟩, ⟨A8, n8, c8⟩, ⟨A9, n9, c9⟩⟩ : MsV)) := HC0.out
        have HKC : Hid (Blk wc9 g6 32 C) := by rw [HC0.out]; exact KB_21.out
        have HCS : Hid (C.size = 18) := by rw [HC0.out]; rfl
        have HC1 : Hid (∀ z ∈ C.toList, z.oneCell' = true) := by rw [HC0.out]; simp [Hid, Value.oneCell']
        have HMG : Hid (∀ w1 w2, MsS w1 (⟨z0, z1, z2, z3, rdBt x5, rdHd x6, ⟨rdHd x7, z4, rdNs x8⟩, rdNs x9⟩ : MsD) (⟨⟨A5, n5, c5⟩, ⟨A6, n6, c6⟩, ⟨B6, m6, d6⟩, ⟨A7, n7, c7⟩, ⟨B7, m7, d7⟩, ⟨A8, n8, c8⟩, ⟨A9, n9, c9⟩⟩ : MsV) → w1.grownBy w2 (some w.heap.size) → MsS w2 (⟨z0, z1, z2, z3, rdBt x5, rdHd x6, ⟨rdHd x7, z4, rdNs x8⟩, rdNs x9⟩ : MsD) (⟨⟨A5, n5, c5⟩, ⟨A6, n6, c6⟩, ⟨B6, m6, d6⟩, ⟨A7, n7, c7⟩, ⟨B7, m7, d7⟩, ⟨A8, n8, c8⟩, ⟨A9, n9, c9⟩⟩ : MsV)) := fun _ _ h hg => ⟨h.tx.grown_ne hg (fun b off hn e => STX_m.out hn b off e), h.hb.grown_ne hg (fun b off hn e => SHB_m.out hn b off e), h.hp.grown_ne hg (fun b off hn e => SHP_m.out hn b off e), h.cb.grown_ne hg (fun b off hn e => SCB_m.out hn b off e), h.cp.grown_ne hg (fun b off hn e => SCP_m.out hn b off e), h.cs.grown_ne hg (fun b off hn e => SCS_m.out hn b off e), h.ds.grown_ne hg (fun b off hn e => SDS_m.out hn b off e)⟩
        generalize (⟨z0, z1, z2, z3, rdBt x5, rdHd x6, ⟨rdHd x7, z4, rdNs x8⟩, rdNs x9⟩ : MsD) = x at HMS HMZ HC HRR HMG
        generalize (⟨⟨A5, n5, c5⟩, ⟨A6, n6, c6⟩, ⟨B6, m6, d6⟩, ⟨A7, n7, c7⟩, ⟨B7, m7, d7⟩, ⟨A8, n8, c8⟩, ⟨A9, n9, c9⟩⟩ : MsV) = u at HMS HMZ HC HMG
        clear KB_21 HC0
        rename_i K9 hk9 K10 hk10
        obtain ⟨f, HF⟩ : ∃ f, Hid (mayM nn x = f) := ⟨_, rfl⟩
        obtain ⟨q, HQ⟩ : ∃ q, Hid ((msgB x == bs) = q) := ⟨_, rfl⟩
        have HRZ : Hid (r = if (f && q) = true then some x else none) := by rw [Hid, HRR.out, ← HF.out, ← HQ.out]
        refine wp_region_lit ?_
        refine frame_off 91 [(0, .slice A n c), (1, .int .i64 nn), (4, .pointer (some ⟨w.heap.size, 0, none⟩)), (6, .pointer (some ⟨g6, 0, none⟩))] (Frm.start rfl (by intro p hp; simp only [List.mem_cons, List.not_mem_nil, or_false] at hp; rcases hp with rfl | rfl | rfl | rfl <;> rfl)) (fun a hM => ?_)
        refine seg_cut9 (fun a' w' => Frm a' 91 [(88, .bool (f && q)), (4, .pointer (some ⟨w.heap.size, 0, none⟩)), (6, .pointer (some ⟨g6, 0, none⟩))] ∧ Below wc9.heap.size wc9 w') (fun K2 hK2 => ?_) (fun a' w' hS => ?_)
        · refine seg_val hM rfl (by omega) rfl (v := .agg C) (w' := wc9) (run_load_blk rfl g6 (hM.ev (t := 6) rfl) 32 C _ HKC.out Try.underlying32 rfl (by rw [HCS.out]; exact Try.infoMsg)) (fun a hM => ?_)
          refine seg_move hM rfl (by omega) rfl (.inl rfl) rfl (fun a hM => ?_)
          refine seg_call hM rfl (by omega) rfl (f := 32) (args := #[.agg C, .int .i64 nn]) (by simp only [execOp, resolve, List.map_toArray, List.map_cons, List.map_nil, hM.ev (t := 80) (v := .agg C) rfl, hM.ev (t := 81) (v := .int .i64 nn) rfl]; simp [go_sem, Act.eval]) (message_May nn x u wc9 HMS HMZ HC HF) (fun a wd hM hbd => ?_)
          refine seg_move hM rfl (by omega) rfl (.inl rfl) rfl (fun a hM => ?_)
          cases f with
          | false =>
            refine seg_skip hM rfl (by omega) rfl rfl rfl rfl (fun a hM => ?_)
            refine seg_skip hM rfl (by omega) rfl rfl rfl rfl (fun a hM => ?_)
            refine seg_skip hM rfl (by omega) rfl rfl rfl rfl (fun a hM => ?_)
            refine seg_skip hM rfl (by omega) rfl rfl rfl rfl (fun a hM => ?_)
            refine seg_pick hM rfl (by omega) rfl rfl rfl rfl (fun a hM => ?_)
            exact seg_nil (hK2 _ _ ⟨hM.weak (by intro p hp; simp only [List.mem_cons, List.not_mem_nil, or_false] at hp; rcases hp with rfl | rfl | rfl <;> rfl), hbd⟩)
          | true =>
            have HGD := hide (good_of_may HF.out)
            refine seg_same hM rfl (by omega) rfl rfl rfl (v := .agg C) (run_load_blk rfl g6 (hM.ev (t := 6) rfl) 32 C _ (HKC.out.later hbd) Try.underlying32 rfl (by rw [HCS.out]; exact Try.infoMsg)) (fun a hM => ?_)
            refine seg_callx hM rfl (by omega) rfl rfl rfl (f := 34) (args := #[.agg C]) (by simp only [execOp, resolve, List.map_toArray, List.map_cons, List.map_nil, hM.ev (t := 84) (v := .agg C) rfl]; simp [go_sem, Act.eval]) (message_lay x u wd (hide (HMS.out.below hbd)) HMZ HC HGD) (fun v a we hM hR => ?_)
            obtain ⟨hown, hbe⟩ := hR
            obtain ⟨A10, c10, rfl⟩ := own_slice hown
            have hbd2 := below_then hbd hbe
            refine seg_same hM rfl (by omega) rfl rfl rfl (v := .slice A n c) (by simp only [execOp, hM.ev (t := 0) (v := .slice A n c) rfl]; simp) (fun a hM => ?_)
            refine seg_callg hM rfl (by omega) rfl rfl rfl (f := 33) (args := #[.slice A10 (msgB x).length c10, .slice A n c]) (by simp only [execOp, resolve, List.map_toArray, List.map_cons, List.map_nil, hM.ev (t := 85) (v := .slice A10 (msgB x).length c10) rfl, hM.ev (t := 86) (v := .slice A n c) rfl]; simp [go_sem, Act.eval]) (bytes_Equal we (Sl.of_own hown) (HS0.out.below (below_then HW_21.out hbd2)) HQ) (fun a wf hM hR => ?_)
            subst hR
            refine seg_pick hM rfl (by omega) rfl rfl rfl rfl (fun a hM => ?_)
            exact seg_nil (hK2 _ _ ⟨hM.weak (by intro p hp; simp only [List.mem_cons, List.not_mem_nil, or_false] at hp; rcases hp with rfl | rfl | rfl <;> rfl), hbd2⟩)
        · obtain ⟨hM, hbd⟩ := hS
          have HWZ := hide (below_then HW_21.out hbd)
          have HKZ := hide (HKC.out.later hbd)
          have HRZ' := hide (KR_21.out.later hbd)
          have HMS2 := hide (HMS.out.below hbd)
          refine wpList_nil ?_
          simp only [Exit.then]
          refine hk10 _ _ ?_
          refine wp_cond (hM.ev (t := 88) rfl) ?_
          cases hfq : (f && q) with
          | false =>
            have HNO : Hid (r = none) := by rw [Hid, HRZ.out, hfq]; rfl
            simp only [Bool.false_eq_true, if_false]
            apply wp_skip
            simp only [Exit.then]
            refine hk9 _ _ ?_
            refine wp_seq_k fun K11 hK11 => ?_
            refine wp_label ?_
            simp only [Exit.then]
            exact hK11 _ _ (H _ _ ⟨hM.weak (by intro p hp; simp only [List.mem_cons, List.not_mem_nil, or_false] at hp; subst hp; rfl), HRZ', HWZ, HNO⟩)
          | true =>
            have HYES : Hid (r = some x) := by rw [Hid, HRZ.out, hfq]; rfl
            simp only [if_true]
            rw [hfq] at hM
            have HMX := hide hM
            clear hM
            have hM := HMX.out
            refine wp_seq_k fun K3 hK3 => ?_
            refine wp_region_lit ?_
            refine seg_cut3 (fun a' w2 => Frm a' 91 [(5, .int .i64 0), (4, .pointer (some ⟨w.heap.size, 0, none⟩))] ∧ Hid (Blk w2 w.heap.size 32 C) ∧ Hid (Below w.heap.size w w2) ∧ Hid (MsS w2 x u)) (fun K2 hK2 => ?_) (fun a' w2 hS => ?_)
            · refine seg_val hM rfl (by omega) rfl (v := .agg C) (run_load_blk rfl g6 (hM.ev (t := 6) rfl) 32 C _ HKZ.out Try.underlying32 rfl (by rw [HCS.out]; exact Try.infoMsg)) (fun a hM => ?_)
              refine seg_store_row hM rfl rfl rfl w.heap.size rfl 32 #[.int .i64 0, .int .i64 0, .int .i64 0, .int .i64 0, .int .i64 0, .int .i64 0, .slice none 0 0, .int .i64 0, .int .i64 0, .slice none 0 0, .slice none 0 0, .int .i64 0, .int .i64 0, .slice none 0 0, .slice none 0 0, .int .i64 0, .slice none 0 0, .slice none 0 0] (.agg C) rfl HRZ'.out (by show _ = some C.size; rw [HCS.out]; exact Try.infoMsg) (by show _ = C.size; rw [HCS.out]; rfl) HC1.out (fun wf KF hgf => ?_)
              refine seg_val hM rfl (by omega) rfl (v := .int .i64 0) (w' := wf) (by simp [execOp, Act.eval]) (fun a hM => ?_)
              exact seg_nil (hK2 _ _ ⟨hM.weak (by intro p hp; simp only [List.mem_cons, List.not_mem_nil, or_false] at hp; rcases hp with rfl | rfl <;> rfl), KF, below_of_grown HWZ.out hgf HWZ.out.size (Nat.le_refl _), HMG.out _ _ HMS2.out hgf⟩)
            · obtain ⟨hM2, KF, HBF, HMF⟩ := hS
              refine wpList_nil (hK3 _ _ ?_)
              apply wp_ret
              simp only [Exit.then, Exit.inBlock, Exit.jump_ret]
              have e4 : a'.tmps.getD 4 undef = .pointer (some ⟨w.heap.size, 0, none⟩) := hM2.ev (t := 4) rfl
              have e5 : a'.tmps.getD 5 undef = .int .i64 0 := hM2.ev (t := 5) rfl
              refine bodyPost_ret (results_cell_row2 Try.results16 _ _ _ _ _ _ _ e4 KF.out Try.underlying32 rfl (by rw [HCS.out]; exact Try.infoMsg)) hM2.2.1 ?_
              rw [e5]
              exact EndM.yes HYES.out HC.out HMF.out HMZ.out HBF.out
end Go.Proofs.Ytmnogefpphonlaa
