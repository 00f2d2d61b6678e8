/-
  Contracts: droverref0.CopyMessage.
-/
import Derived.Test.YtebaojcfmkobjaaGr17
import Derived.Test.YtebaojcfmkobjaaGr00
set_option linter.unusedVariables false
set_option linter.unusedSimpArgs false
namespace Go.Proofs.Ytebaojcfmkobjaa
open Go.RowKit

theorem seg_callv {P : Program} {ops : Array Oper} {Q : Exit → Act → World → Prop} {K : Act → World → Prop} {a : Act} {w : World} {rest : List Oper} {o : Oper} {n : Nat} {M : List (Nat × Value)} {d : Nat} {f : FuncId} {args : Array Value} {R : Value → World → Prop} (hM : Frm a n M) (hd : o.dst = some d) (hn : d < n) (hg : o.guard = none)
    (hr : (execOp a.eval o).run P w = .ok (.enter f args) w) (hc : Calls P f args w fun e w' => ∃ v, e = .returned v ∧ R v w')
    (h : ∀ v a' w', Frm a' n ((d, v) :: M) → R v w' → wpSeg P ops Q K rest a' w') : wpSeg P ops Q K (o :: rest) a w := by
  unfold wpSeg
  rw [if_pos (by simp [Region.wanted, hg])]
  refine .inl ?_
  unfold Oper.wp
  rw [hr, Oper.upon_enter]
  refine hc.mono ?_
  rintro e w' ⟨v, rfl, hR⟩
  simp only [hd]
  exact h v _ _ (hM.put hn v) hR
theorem results_cell_row1 {P : Program} {fn : Func} {p : Tmp} {ty : TypeId} (h : fn.results = #[.cell p ty]) (tmps : Array Value) (w : World) (g : Nat) (t : TypeId) (cs : Array Value) (fr : Nat × Nat) (d : TypeDesc)
    (hp : tmps.getD p undef = .pointer (some ⟨g, 0, none⟩)) (hg : w.heap[g]? = some (.cells cs t fr))
    (hu : P.underlying ty = some d) (hd : (match d with | .struct _ | .array _ _ => true | _ => false) = true) (hi : (P.info? ty).map (·.size) = some cs.size) :
    (results fn tmps).run P w = .ok (.agg cs) w := by
  have hp' : tmps[p]?.getD undef = .pointer (some ⟨g, 0, none⟩) := by simpa using hp
  simp [results, h, hp', asAddr, run_loadVar_row w g t ty cs fr d hg hu hd hi]
/-- A message's slices, owned. -/
structure MsO (B : Nat) (w : World) (x : MsD) (u : MsV) : Prop where
  tx : w.ownsRow B 101 4 u.tx.v u.tx.n (txsC x.b.l)
  hb : w.ownsRow B 3 1 u.hb.v u.hb.n (ints x.h.bs)
  hp : w.ownsRow B 3 1 u.hp.v u.hp.n (ints x.h.ps)
  cb : w.ownsRow B 3 1 u.cb.v u.cb.n (ints x.c.h.bs)
  cp : w.ownsRow B 3 1 u.cp.v u.cp.n (ints x.c.h.ps)
  cs : w.ownsRow B 3 1 u.cs.v u.cs.n (ints x.c.ss)
  ds : w.ownsRow B 3 1 u.ds.v u.ds.n (ints x.s)
/-- As long. -/
structure MsE (u v : MsV) : Prop where
  tx : u.tx.n = v.tx.n
  hb : u.hb.n = v.hb.n
  hp : u.hp.n = v.hp.n
  cb : u.cb.n = v.cb.n
  cp : u.cp.n = v.cp.n
  cs : u.cs.n = v.cs.n
  ds : u.ds.n = v.ds.n
/-- Short enough to be copied. -/
structure MsK (x : MsD) (v : MsV) : Prop where
  tx : v.tx.n ≤ 1000000000000
  hb : v.hb.n ≤ 1000000000000
  hp : v.hp.n ≤ 1000000000000
  cb : v.cb.n ≤ 1000000000000
  cp : v.cp.n ≤ 1000000000000
  cs : v.cs.n ≤ 1000000000000
  ds : v.ds.n ≤ 1000000000000
/-- Of blocks of its own. -/
def ApX (d : Value) (l : List Value) : Prop := ∀ g, d.ownBlock = some g → ∀ z ∈ l, z.ownBlock ≠ some g
def CpM (x : MsD) (v : MsV) (w : World) (e : Ending) (w' : World) : Prop := ∃ D u, e = .returned (.agg D) ∧ Hid (D = msC x u ∧ MsO w.heap.size w' x u ∧ MsE u v ∧ ApX u.ds.v [u.tx.v, u.hb.v, u.hp.v, u.cb.v, u.cp.v, u.cs.v]) ∧ Below w.heap.size w w'
set_option maxRecDepth 100000 in
set_option maxHeartbeats 4000000 in
theorem ref0_CopyMessage (x : MsD) (v : MsV) (w : World) (HS : Hid (MsS w x v)) (HL : Hid (MsK x v)) {C : Array Value} (HC : Hid (C = msC x v)) :
    Calls Try.prog 17 #[.agg C] w (CpM x v w) := by
  have HCS : Hid (C.size = 18) := by rw [Hid, HC.out]; rfl
  have HC1 : Hid (∀ z ∈ C.toList, z.oneCell' = true) := by rw [HC.out]; simp [Hid, msC, SlV.v, Value.oneCell']
  have HKA := hide ((Blk.new w 42 C).alloc (.cells #[.int .i64 0, .int .i64 0, .int .i64 0, .int .i64 0, .int .i64 0, .int .i64 0, .slice none 0 0, .int .i64 0, .int .i64 0, .slice none 0 0, .slice none 0 0, .int .i64 0, .int .i64 0, .slice none 0 0, .slice none 0 0, .int .i64 0, .slice none 0 0, .slice none 0 0] 42))
  have HKB := hide (Blk.new2 w (.cells C 42) 42 #[.int .i64 0, .int .i64 0, .int .i64 0, .int .i64 0, .int .i64 0, .int .i64 0, .slice none 0 0, .int .i64 0, .int .i64 0, .slice none 0 0, .slice none 0 0, .int .i64 0, .int .i64 0, .slice none 0 0, .slice none 0 0, .int .i64 0, .slice none 0 0, .slice none 0 0])
  have HBW : Hid (Below w.heap.size w ((w.alloc (.cells C 42)).alloc (.cells #[.int .i64 0, .int .i64 0, .int .i64 0, .int .i64 0, .int .i64 0, .int .i64 0, .slice none 0 0, .int .i64 0, .int .i64 0, .slice none 0 0, .slice none 0 0, .int .i64 0, .int .i64 0, .slice none 0 0, .slice none 0 0, .int .i64 0, .slice none 0 0, .slice none 0 0] 42))) := (below_alloc' w _).alloc (by simp) _
  have HSZ : Hid (((w.alloc (.cells C 42)).alloc (.cells #[.int .i64 0, .int .i64 0, .int .i64 0, .int .i64 0, .int .i64 0, .int .i64 0, .slice none 0 0, .int .i64 0, .int .i64 0, .slice none 0 0, .slice none 0 0, .int .i64 0, .int .i64 0, .slice none 0 0, .slice none 0 0, .int .i64 0, .slice none 0 0, .slice none 0 0] 42)).heap.size = w.heap.size + 2) := by simp [Hid]
  go_enter Try.func17, Try.ntmps17
  go_upto_region 1 with fail
  generalize (w.alloc (.cells C 42)).alloc (.cells #[.int .i64 0, .int .i64 0, .int .i64 0, .int .i64 0, .int .i64 0, .int .i64 0, .slice none 0 0, .int .i64 0, .int .i64 0, .slice none 0 0, .slice none 0 0, .int .i64 0, .int .i64 0, .slice none 0 0, .slice none 0 0, .int .i64 0, .slice none 0 0, .slice none 0 0] 42) = w3 at HKA HKB HBW HSZ ⊢
  refine wp_region_lit ?_
  refine frame_off 22 [(1, .pointer (some ⟨w.heap.size, 0, none⟩)), (2, .pointer (some ⟨w.heap.size + 1, 0, none⟩))] (Frm.start rfl (by intro p hp; simp only [List.mem_cons, List.not_mem_nil, or_false] at hp; rcases hp with rfl | rfl <;> rfl)) (fun a hM => ?_)
  refine seg_cut3 (fun a' w' => Frm a' 22 [(1, .pointer (some ⟨w.heap.size, 0, none⟩)), (2, .pointer (some ⟨w.heap.size + 1, 0, none⟩)), (3, .pointer (some ⟨w.heap.size + 2, 0, none⟩))] ∧ Hid (Blk w' w.heap.size 42 C) ∧ Hid (Blk w' (w.heap.size + 1) 42 #[.int .i64 0, .int .i64 0, .int .i64 0, .int .i64 0, .int .i64 0, .int .i64 0, .slice none 0 0, .int .i64 0, .int .i64 0, .slice none 0 0, .slice none 0 0, .int .i64 0, .int .i64 0, .slice none 0 0, .slice none 0 0, .int .i64 0, .slice none 0 0, .slice none 0 0]) ∧ Hid (Blk w' (w.heap.size + 2) 42 C) ∧ Hid (Below w.heap.size w w')) (fun K hK => ?_) (fun a' w' hS => ?_)
  · refine seg_val hM rfl (by omega) rfl (v := .agg C) (w' := w3) (run_load_blk rfl w.heap.size (hM.ev (t := 1) rfl) 42 C _ HKA.out Try.underlying42 rfl (by rw [HCS.out]; exact Try.infoMsg)) (fun a hM => ?_)
    have hsz := HSZ.out
    refine seg_val hM rfl (by omega) rfl (v := .pointer (some ⟨w.heap.size + 2, 0, none⟩)) (w' := w3.alloc (.cells #[.int .i64 0, .int .i64 0, .int .i64 0, .int .i64 0, .int .i64 0, .int .i64 0, .slice none 0 0, .int .i64 0, .int .i64 0, .slice none 0 0, .slice none 0 0, .int .i64 0, .int .i64 0, .slice none 0 0, .slice none 0 0, .int .i64 0, .slice none 0 0, .slice none 0 0] 42)) (by simp only [execOp]; simp [go_sem, hsz]) (fun a hM => ?_)
    have KN := Blk.new w3 42 #[.int .i64 0, .int .i64 0, .int .i64 0, .int .i64 0, .int .i64 0, .int .i64 0, .slice none 0 0, .int .i64 0, .int .i64 0, .slice none 0 0, .slice none 0 0, .int .i64 0, .int .i64 0, .slice none 0 0, .slice none 0 0, .int .i64 0, .slice none 0 0, .slice none 0 0]
    rw [hsz] at KN
    refine seg_store_row hM rfl rfl rfl (w.heap.size + 2) rfl 42 #[.int .i64 0, .int .i64 0, .int .i64 0, .int .i64 0, .int .i64 0, .int .i64 0, .slice none 0 0, .int .i64 0, .int .i64 0, .slice none 0 0, .slice none 0 0, .int .i64 0, .int .i64 0, .slice none 0 0, .slice none 0 0, .int .i64 0, .slice none 0 0, .slice none 0 0] (.agg C) rfl KN (by show _ = some C.size; rw [HCS.out]; exact Try.infoMsg) (by show _ = C.size; rw [HCS.out]; rfl) HC1.out (fun wf KF hgf => ?_)
    have hb2 := HBW.out.alloc HBW.out.size (.cells #[.int .i64 0, .int .i64 0, .int .i64 0, .int .i64 0, .int .i64 0, .int .i64 0, .slice none 0 0, .int .i64 0, .int .i64 0, .slice none 0 0, .slice none 0 0, .int .i64 0, .int .i64 0, .slice none 0 0, .slice none 0 0, .int .i64 0, .slice none 0 0, .slice none 0 0] 42)
    exact seg_nil (hK _ _ ⟨hM.weak (by intro p hp; simp only [List.mem_cons, List.not_mem_nil, or_false] at hp; rcases hp with rfl | rfl | rfl <;> rfl), (HKA.out.alloc _).grown hgf (by simp), (HKB.out.alloc _).grown hgf (by simp), KF, below_of_grown hb2 hgf (by simp; omega) (by omega)⟩)
  obtain ⟨hM, KA, KB, KX, HB⟩ := hS
  clear HKA HKB HBW HSZ
  refine wpList_nil ?_
  simp only [Exit.then]
  go_step
  have KX := hide (show Blk w' (w.heap.size + 2) 42 #[.int .i64 x.k, .int .i64 x.f, .int .i64 x.t, .int .i64 x.d, .int .i64 x.b.a, .int .i64 x.b.n, .slice v.tx.A v.tx.n v.tx.c, .int .i64 x.h.a, .int .i64 x.h.r, .slice v.hb.A v.hb.n v.hb.c, .slice v.hp.A v.hp.n v.hp.c, .int .i64 x.c.h.a, .int .i64 x.c.h.r, .slice v.cb.A v.cb.n v.cb.c, .slice v.cp.A v.cp.n v.cp.c, .int .i64 x.c.d, .slice v.cs.A v.cs.n v.cs.c, .slice v.ds.A v.ds.n v.ds.c] by have h := KX.out; rw [HC.out] at h; exact h)
  refine wp_seq_k fun K2 hK2 => ?_
  refine wp_region_lit ?_
  refine seg_cut5 (fun a' w' => ∃ (A_tx : Option Addr) (c_tx : Nat), Frm a' 22 [(1, .pointer (some ⟨w.heap.size, 0, none⟩)), (2, .pointer (some ⟨w.heap.size + 1, 0, none⟩)), (3, .pointer (some ⟨w.heap.size + 2, 0, none⟩))] ∧ Hid (Blk w' w.heap.size 42 C) ∧ Hid (Blk w' (w.heap.size + 1) 42 #[.int .i64 0, .int .i64 0, .int .i64 0, .int .i64 0, .int .i64 0, .int .i64 0, .slice none 0 0, .int .i64 0, .int .i64 0, .slice none 0 0, .slice none 0 0, .int .i64 0, .int .i64 0, .slice none 0 0, .slice none 0 0, .int .i64 0, .slice none 0 0, .slice none 0 0]) ∧ Hid (Blk w' (w.heap.size + 2) 42 #[.int .i64 x.k, .int .i64 x.f, .int .i64 x.t, .int .i64 x.d, .int .i64 x.b.a, .int .i64 x.b.n, .slice A_tx v.tx.n c_tx, .int .i64 x.h.a, .int .i64 x.h.r, .slice v.hb.A v.hb.n v.hb.c, .slice v.hp.A v.hp.n v.hp.c, .int .i64 x.c.h.a, .int .i64 x.c.h.r, .slice v.cb.A v.cb.n v.cb.c, .slice v.cp.A v.cp.n v.cp.c, .int .i64 x.c.d, .slice v.cs.A v.cs.n v.cs.c, .slice v.ds.A v.ds.n v.ds.c]) ∧ Hid (Below w.heap.size w w') ∧ Hid (w'.ownsRow w.heap.size 101 4 (.slice A_tx v.tx.n c_tx) v.tx.n (txsC x.b.l))) (fun K hK => ?_) (fun a' w' hS => ?_)
  · have HBW := HB.out
    refine seg_val hM rfl (by omega) rfl (v := .pointer (some ⟨w.heap.size, 4, none⟩)) (w' := w') (by simp only [execOp, hM.ev (t := 1) (v := .pointer (some ⟨w.heap.size, 0, none⟩)) rfl]; simp [go_sem]) (fun a hM => ?_)
    have k0 : w'.cell? ⟨w.heap.size, 4, none⟩ = some (.int .i64 x.b.a) := KA.out.at_ (by rw [HC.out]; rfl)
    have k1 : w'.cell? ⟨w.heap.size, 5, none⟩ = some (.int .i64 x.b.n) := KA.out.at_ (by rw [HC.out]; rfl)
    have k2 : w'.cell? ⟨w.heap.size, 6, none⟩ = some (.slice v.tx.A v.tx.n v.tx.c) := KA.out.at_ (by rw [HC.out]; rfl)
    refine seg_val hM rfl (by omega) rfl (v := .agg #[.int .i64 x.b.a, .int .i64 x.b.n, .slice v.tx.A v.tx.n v.tx.c]) (w' := w') (by simp only [execOp, hM.ev (t := 5) (v := .pointer (some ⟨w.heap.size, 4, none⟩)) rfl]; simp [go_sem, k0, k1, k2]) (fun a hM => ?_)
    clear k0 k1 k2
    refine seg_callv (R := fun V W => ∃ (v1 : Value), V = .agg #[.int .i64 x.b.a, .int .i64 x.b.n, v1] ∧ W.ownsRow w'.heap.size 101 4 (v1) v.tx.n (txsC x.b.l) ∧ Below w'.heap.size w' W) hM rfl (by omega) rfl (f := 35) (args := #[.agg #[.int .i64 x.b.a, .int .i64 x.b.n, .slice v.tx.A v.tx.n v.tx.c]]) (by simp only [execOp, resolve, List.map_toArray, List.map_cons, List.map_nil, hM.ev (t := 6) (v := .agg #[.int .i64 x.b.a, .int .i64 x.b.n, .slice v.tx.A v.tx.n v.tx.c]) rfl]; simp [go_sem, Act.eval]) ((ref0_CopyBatch (c := v.tx.c) x.b.a x.b.n _ (HS.out.below HBW).tx (by have := HL.out.tx; omega)).mono (by rintro e W ⟨v1, rfl, o1, hb⟩; exact ⟨_, rfl, v1, rfl, o1, hb⟩)) (fun V a wb hM hR => ?_)
    obtain ⟨v1, rfl, o1, hb⟩ := hR
    obtain ⟨A_tx, c_tx, rfl⟩ := own_slice o1
    refine seg_val hM rfl (by omega) rfl (v := .pointer (some ⟨w.heap.size + 2, 4, none⟩)) (w' := wb) (by simp only [execOp, hM.ev (t := 3) (v := .pointer (some ⟨w.heap.size + 2, 0, none⟩)) rfl]; simp [go_sem]) (fun a hM => ?_)
    have KX2 := KX.out.later hb
    have KA2 := KA.out.later hb
    have KB2 := KB.out.later hb
    refine seg_store_part hM rfl rfl rfl (w.heap.size + 2) 4 rfl 42 #[.int .i64 x.k, .int .i64 x.f, .int .i64 x.t, .int .i64 x.d, .int .i64 x.b.a, .int .i64 x.b.n, .slice v.tx.A v.tx.n v.tx.c, .int .i64 x.h.a, .int .i64 x.h.r, .slice v.hb.A v.hb.n v.hb.c, .slice v.hp.A v.hp.n v.hp.c, .int .i64 x.c.h.a, .int .i64 x.c.h.r, .slice v.cb.A v.cb.n v.cb.c, .slice v.cp.A v.cp.n v.cp.c, .int .i64 x.c.d, .slice v.cs.A v.cs.n v.cs.c, .slice v.ds.A v.ds.n v.ds.c] (.agg #[.int .i64 x.b.a, .int .i64 x.b.n, .slice A_tx v.tx.n c_tx]) rfl KX2 (by kernel_rfl) (by show 4 + 3 ≤ 18; omega) (by simp [Value.cells, Value.oneCell']) (fun wf KF hgf => ?_)
    exact seg_nil (hK _ _ ⟨A_tx, c_tx, hM.weak (by intro p hp; simp only [List.mem_cons, List.not_mem_nil, or_false] at hp; rcases hp with rfl | rfl | rfl <;> rfl), hide (KA2.grown hgf (by simp)), hide (KB2.grown hgf (by simp)), hide KF, hide (below_of_grown (below_then HBW hb) hgf (below_then HBW hb).size (by omega)), hide ((own_mono o1 HBW.size).kept hgf (Or.inr (own_blk_ne o1 KX2 (by decide))))⟩)
  clear hM KA KB KX HB 
  obtain ⟨A_tx, c_tx, hM, KA, KB, KX, HB, O_tx⟩ := hS
  refine wpList_nil ?_
  simp only [Exit.then]
  refine hK2 _ _ ?_
  clear hK2
  refine wp_seq_k fun K3 hK3 => ?_
  refine wp_region_lit ?_
  refine seg_cut5 (fun a' w' => ∃ (A_hb : Option Addr) (c_hb : Nat) (A_hp : Option Addr) (c_hp : Nat), Frm a' 22 [(1, .pointer (some ⟨w.heap.size, 0, none⟩)), (2, .pointer (some ⟨w.heap.size + 1, 0, none⟩)), (3, .pointer (some ⟨w.heap.size + 2, 0, none⟩))] ∧ Hid (Blk w' w.heap.size 42 C) ∧ Hid (Blk w' (w.heap.size + 1) 42 #[.int .i64 0, .int .i64 0, .int .i64 0, .int .i64 0, .int .i64 0, .int .i64 0, .slice none 0 0, .int .i64 0, .int .i64 0, .slice none 0 0, .slice none 0 0, .int .i64 0, .int .i64 0, .slice none 0 0, .slice none 0 0, .int .i64 0, .slice none 0 0, .slice none 0 0]) ∧ Hid (Blk w' (w.heap.size + 2) 42 #[.int .i64 x.k, .int .i64 x.f, .int .i64 x.t, .int .i64 x.d, .int .i64 x.b.a, .int .i64 x.b.n, .slice A_tx v.tx.n c_tx, .int .i64 x.h.a, .int .i64 x.h.r, .slice A_hb v.hb.n c_hb, .slice A_hp v.hp.n c_hp, .int .i64 x.c.h.a, .int .i64 x.c.h.r, .slice v.cb.A v.cb.n v.cb.c, .slice v.cp.A v.cp.n v.cp.c, .int .i64 x.c.d, .slice v.cs.A v.cs.n v.cs.c, .slice v.ds.A v.ds.n v.ds.c]) ∧ Hid (Below w.heap.size w w') ∧ Hid (w'.ownsRow w.heap.size 101 4 (.slice A_tx v.tx.n c_tx) v.tx.n (txsC x.b.l)) ∧ Hid (w'.ownsRow w.heap.size 3 1 (.slice A_hb v.hb.n c_hb) v.hb.n (ints x.h.bs)) ∧ Hid (w'.ownsRow w.heap.size 3 1 (.slice A_hp v.hp.n c_hp) v.hp.n (ints x.h.ps))) (fun K hK => ?_) (fun a' w' hS => ?_)
  · have HBW := HB.out
    refine seg_val hM rfl (by omega) rfl (v := .pointer (some ⟨w.heap.size, 7, none⟩)) (w' := w') (by simp only [execOp, hM.ev (t := 1) (v := .pointer (some ⟨w.heap.size, 0, none⟩)) rfl]; simp [go_sem]) (fun a hM => ?_)
    have k0 : w'.cell? ⟨w.heap.size, 7, none⟩ = some (.int .i64 x.h.a) := KA.out.at_ (by rw [HC.out]; rfl)
    have k1 : w'.cell? ⟨w.heap.size, 8, none⟩ = some (.int .i64 x.h.r) := KA.out.at_ (by rw [HC.out]; rfl)
    have k2 : w'.cell? ⟨w.heap.size, 9, none⟩ = some (.slice v.hb.A v.hb.n v.hb.c) := KA.out.at_ (by rw [HC.out]; rfl)
    have k3 : w'.cell? ⟨w.heap.size, 10, none⟩ = some (.slice v.hp.A v.hp.n v.hp.c) := KA.out.at_ (by rw [HC.out]; rfl)
    refine seg_val hM rfl (by omega) rfl (v := .agg #[.int .i64 x.h.a, .int .i64 x.h.r, .slice v.hb.A v.hb.n v.hb.c, .slice v.hp.A v.hp.n v.hp.c]) (w' := w') (by simp only [execOp, hM.ev (t := 9) (v := .pointer (some ⟨w.heap.size, 7, none⟩)) rfl]; simp [go_sem, k0, k1, k2, k3]) (fun a hM => ?_)
    clear k0 k1 k2 k3
    refine seg_callv (R := fun V W => ∃ (v1 : Value) (v2 : Value), V = .agg #[.int .i64 x.h.a, .int .i64 x.h.r, v1, v2] ∧ W.ownsRow w'.heap.size 3 1 (v1) v.hb.n (ints x.h.bs) ∧ W.ownsRow w'.heap.size 3 1 (v2) v.hp.n (ints x.h.ps) ∧ Below w'.heap.size w' W) hM rfl (by omega) rfl (f := 36) (args := #[.agg #[.int .i64 x.h.a, .int .i64 x.h.r, .slice v.hb.A v.hb.n v.hb.c, .slice v.hp.A v.hp.n v.hp.c]]) (by simp only [execOp, resolve, List.map_toArray, List.map_cons, List.map_nil, hM.ev (t := 10) (v := .agg #[.int .i64 x.h.a, .int .i64 x.h.r, .slice v.hb.A v.hb.n v.hb.c, .slice v.hp.A v.hp.n v.hp.c]) rfl]; simp [go_sem, Act.eval]) ((ref0_CopyHeader (c1 := v.hb.c) (c2 := v.hp.c) x.h.a x.h.r x.h.bs x.h.ps _ (HS.out.below HBW).hb (HS.out.below HBW).hp HL.out.hb HL.out.hp).mono (by rintro e W ⟨v1, v2, rfl, o1, o2, hb⟩; exact ⟨_, rfl, v1, v2, rfl, o1, o2, hb⟩)) (fun V a wb hM hR => ?_)
    obtain ⟨v1, v2, rfl, o1, o2, hb⟩ := hR
    obtain ⟨A_hb, c_hb, rfl⟩ := own_slice o1
    obtain ⟨A_hp, c_hp, rfl⟩ := own_slice o2
    refine seg_val hM rfl (by omega) rfl (v := .pointer (some ⟨w.heap.size + 2, 7, none⟩)) (w' := wb) (by simp only [execOp, hM.ev (t := 3) (v := .pointer (some ⟨w.heap.size + 2, 0, none⟩)) rfl]; simp [go_sem]) (fun a hM => ?_)
    have KX2 := KX.out.later hb
    have KA2 := KA.out.later hb
    have KB2 := KB.out.later hb
    refine seg_store_part hM rfl rfl rfl (w.heap.size + 2) 7 rfl 42 #[.int .i64 x.k, .int .i64 x.f, .int .i64 x.t, .int .i64 x.d, .int .i64 x.b.a, .int .i64 x.b.n, .slice A_tx v.tx.n c_tx, .int .i64 x.h.a, .int .i64 x.h.r, .slice v.hb.A v.hb.n v.hb.c, .slice v.hp.A v.hp.n v.hp.c, .int .i64 x.c.h.a, .int .i64 x.c.h.r, .slice v.cb.A v.cb.n v.cb.c, .slice v.cp.A v.cp.n v.cp.c, .int .i64 x.c.d, .slice v.cs.A v.cs.n v.cs.c, .slice v.ds.A v.ds.n v.ds.c] (.agg #[.int .i64 x.h.a, .int .i64 x.h.r, .slice A_hb v.hb.n c_hb, .slice A_hp v.hp.n c_hp]) rfl KX2 (by kernel_rfl) (by show 7 + 4 ≤ 18; omega) (by simp [Value.cells, Value.oneCell']) (fun wf KF hgf => ?_)
    exact seg_nil (hK _ _ ⟨A_hb, c_hb, A_hp, c_hp, hM.weak (by intro p hp; simp only [List.mem_cons, List.not_mem_nil, or_false] at hp; rcases hp with rfl | rfl | rfl <;> rfl), hide (KA2.grown hgf (by simp)), hide (KB2.grown hgf (by simp)), hide KF, hide (below_of_grown (below_then HBW hb) hgf (below_then HBW hb).size (by omega)), hide ((own_later O_tx.out hb).kept hgf (Or.inr (own_blk_ne (own_later O_tx.out hb) KX2 (by decide)))), hide ((own_mono o1 HBW.size).kept hgf (Or.inr (own_blk_ne o1 KX2 (by decide)))), hide ((own_mono o2 HBW.size).kept hgf (Or.inr (own_blk_ne o2 KX2 (by decide))))⟩)
  clear hM KA KB KX HB O_tx
  obtain ⟨A_hb, c_hb, A_hp, c_hp, hM, KA, KB, KX, HB, O_tx, O_hb, O_hp⟩ := hS
  refine wpList_nil ?_
  simp only [Exit.then]
  refine hK3 _ _ ?_
  clear hK3
  refine wp_seq_k fun K4 hK4 => ?_
  refine wp_region_lit ?_
  refine seg_cut5 (fun a' w' => ∃ (A_cb : Option Addr) (c_cb : Nat) (A_cp : Option Addr) (c_cp : Nat) (A_cs : Option Addr) (c_cs : Nat), Frm a' 22 [(1, .pointer (some ⟨w.heap.size, 0, none⟩)), (2, .pointer (some ⟨w.heap.size + 1, 0, none⟩)), (3, .pointer (some ⟨w.heap.size + 2, 0, none⟩))] ∧ Hid (Blk w' w.heap.size 42 C) ∧ Hid (Blk w' (w.heap.size + 1) 42 #[.int .i64 0, .int .i64 0, .int .i64 0, .int .i64 0, .int .i64 0, .int .i64 0, .slice none 0 0, .int .i64 0, .int .i64 0, .slice none 0 0, .slice none 0 0, .int .i64 0, .int .i64 0, .slice none 0 0, .slice none 0 0, .int .i64 0, .slice none 0 0, .slice none 0 0]) ∧ Hid (Blk w' (w.heap.size + 2) 42 #[.int .i64 x.k, .int .i64 x.f, .int .i64 x.t, .int .i64 x.d, .int .i64 x.b.a, .int .i64 x.b.n, .slice A_tx v.tx.n c_tx, .int .i64 x.h.a, .int .i64 x.h.r, .slice A_hb v.hb.n c_hb, .slice A_hp v.hp.n c_hp, .int .i64 x.c.h.a, .int .i64 x.c.h.r, .slice A_cb v.cb.n c_cb, .slice A_cp v.cp.n c_cp, .int .i64 x.c.d, .slice A_cs v.cs.n c_cs, .slice v.ds.A v.ds.n v.ds.c]) ∧ Hid (Below w.heap.size w w') ∧ Hid (w'.ownsRow w.heap.size 101 4 (.slice A_tx v.tx.n c_tx) v.tx.n (txsC x.b.l)) ∧ Hid (w'.ownsRow w.heap.size 3 1 (.slice A_hb v.hb.n c_hb) v.hb.n (ints x.h.bs)) ∧ Hid (w'.ownsRow w.heap.size 3 1 (.slice A_hp v.hp.n c_hp) v.hp.n (ints x.h.ps)) ∧ Hid (w'.ownsRow w.heap.size 3 1 (.slice A_cb v.cb.n c_cb) v.cb.n (ints x.c.h.bs)) ∧ Hid (w'.ownsRow w.heap.size 3 1 (.slice A_cp v.cp.n c_cp) v.cp.n (ints x.c.h.ps)) ∧ Hid (w'.ownsRow w.heap.size 3 1 (.slice A_cs v.cs.n c_cs) v.cs.n (ints x.c.ss))) (fun K hK => ?_) (fun a' w' hS => ?_)
  · have HBW := HB.out
    refine seg_val hM rfl (by omega) rfl (v := .pointer (some ⟨w.heap.size, 11, none⟩)) (w' := w') (by simp only [execOp, hM.ev (t := 1) (v := .pointer (some ⟨w.heap.size, 0, none⟩)) rfl]; simp [go_sem]) (fun a hM => ?_)
    have k0 : w'.cell? ⟨w.heap.size, 11, none⟩ = some (.int .i64 x.c.h.a) := KA.out.at_ (by rw [HC.out]; rfl)
    have k1 : w'.cell? ⟨w.heap.size, 12, none⟩ = some (.int .i64 x.c.h.r) := KA.out.at_ (by rw [HC.out]; rfl)
    have k2 : w'.cell? ⟨w.heap.size, 13, none⟩ = some (.slice v.cb.A v.cb.n v.cb.c) := KA.out.at_ (by rw [HC.out]; rfl)
    have k3 : w'.cell? ⟨w.heap.size, 14, none⟩ = some (.slice v.cp.A v.cp.n v.cp.c) := KA.out.at_ (by rw [HC.out]; rfl)
    have k4 : w'.cell? ⟨w.heap.size, 15, none⟩ = some (.int .i64 x.c.d) := KA.out.at_ (by rw [HC.out]; rfl)
    have k5 : w'.cell? ⟨w.heap.size, 16, none⟩ = some (.slice v.cs.A v.cs.n v.cs.c) := KA.out.at_ (by rw [HC.out]; rfl)
    refine seg_val hM rfl (by omega) rfl (v := .agg #[.int .i64 x.c.h.a, .int .i64 x.c.h.r, .slice v.cb.A v.cb.n v.cb.c, .slice v.cp.A v.cp.n v.cp.c, .int .i64 x.c.d, .slice v.cs.A v.cs.n v.cs.c]) (w' := w') (by simp only [execOp, hM.ev (t := 13) (v := .pointer (some ⟨w.heap.size, 11, none⟩)) rfl]; simp [go_sem, k0, k1, k2, k3, k4, k5]) (fun a hM => ?_)
    clear k0 k1 k2 k3 k4 k5
    refine seg_callv (R := fun V W => ∃ (v1 : Value) (v2 : Value) (v3 : Value), V = .agg #[.int .i64 x.c.h.a, .int .i64 x.c.h.r, v1, v2, .int .i64 x.c.d, v3] ∧ W.ownsRow w'.heap.size 3 1 (v1) v.cb.n (ints x.c.h.bs) ∧ W.ownsRow w'.heap.size 3 1 (v2) v.cp.n (ints x.c.h.ps) ∧ W.ownsRow w'.heap.size 3 1 (v3) v.cs.n (ints x.c.ss) ∧ Below w'.heap.size w' W) hM rfl (by omega) rfl (f := 37) (args := #[.agg #[.int .i64 x.c.h.a, .int .i64 x.c.h.r, .slice v.cb.A v.cb.n v.cb.c, .slice v.cp.A v.cp.n v.cp.c, .int .i64 x.c.d, .slice v.cs.A v.cs.n v.cs.c]]) (by simp only [execOp, resolve, List.map_toArray, List.map_cons, List.map_nil, hM.ev (t := 14) (v := .agg #[.int .i64 x.c.h.a, .int .i64 x.c.h.r, .slice v.cb.A v.cb.n v.cb.c, .slice v.cp.A v.cp.n v.cp.c, .int .i64 x.c.d, .slice v.cs.A v.cs.n v.cs.c]) rfl]; simp [go_sem, Act.eval]) ((ref0_CopyCert (c1 := v.cb.c) (c2 := v.cp.c) (c3 := v.cs.c) x.c.h.a x.c.h.r x.c.d x.c.h.bs x.c.h.ps x.c.ss _ (HS.out.below HBW).cb (HS.out.below HBW).cp (HS.out.below HBW).cs HL.out.cb HL.out.cp HL.out.cs).mono (by rintro e W ⟨v1, v2, v3, rfl, o1, o2, o3, hb⟩; exact ⟨_, rfl, v1, v2, v3, rfl, o1, o2, o3, hb⟩)) (fun V a wb hM hR => ?_)
    obtain ⟨v1, v2, v3, rfl, o1, o2, o3, hb⟩ := hR
    obtain ⟨A_cb, c_cb, rfl⟩ := own_slice o1
    obtain ⟨A_cp, c_cp, rfl⟩ := own_slice o2
    obtain ⟨A_cs, c_cs, rfl⟩ := own_slice o3
    refine seg_val hM rfl (by omega) rfl (v := .pointer (some ⟨w.heap.size + 2, 11, none⟩)) (w' := wb) (by simp only [execOp, hM.ev (t := 3) (v := .pointer (some ⟨w.heap.size + 2, 0, none⟩)) rfl]; simp [go_sem]) (fun a hM => ?_)
    have KX2 := KX.out.later hb
    have KA2 := KA.out.later hb
    have KB2 := KB.out.later hb
    refine seg_store_part hM rfl rfl rfl (w.heap.size + 2) 11 rfl 42 #[.int .i64 x.k, .int .i64 x.f, .int .i64 x.t, .int .i64 x.d, .int .i64 x.b.a, .int .i64 x.b.n, .slice A_tx v.tx.n c_tx, .int .i64 x.h.a, .int .i64 x.h.r, .slice A_hb v.hb.n c_hb, .slice A_hp v.hp.n c_hp, .int .i64 x.c.h.a, .int .i64 x.c.h.r, .slice v.cb.A v.cb.n v.cb.c, .slice v.cp.A v.cp.n v.cp.c, .int .i64 x.c.d, .slice v.cs.A v.cs.n v.cs.c, .slice v.ds.A v.ds.n v.ds.c] (.agg #[.int .i64 x.c.h.a, .int .i64 x.c.h.r, .slice A_cb v.cb.n c_cb, .slice A_cp v.cp.n c_cp, .int .i64 x.c.d, .slice A_cs v.cs.n c_cs]) rfl KX2 (by kernel_rfl) (by show 11 + 6 ≤ 18; omega) (by simp [Value.cells, Value.oneCell']) (fun wf KF hgf => ?_)
    exact seg_nil (hK _ _ ⟨A_cb, c_cb, A_cp, c_cp, A_cs, c_cs, hM.weak (by intro p hp; simp only [List.mem_cons, List.not_mem_nil, or_false] at hp; rcases hp with rfl | rfl | rfl <;> rfl), hide (KA2.grown hgf (by simp)), hide (KB2.grown hgf (by simp)), hide KF, hide (below_of_grown (below_then HBW hb) hgf (below_then HBW hb).size (by omega)), hide ((own_later O_tx.out hb).kept hgf (Or.inr (own_blk_ne (own_later O_tx.out hb) KX2 (by decide)))), hide ((own_later O_hb.out hb).kept hgf (Or.inr (own_blk_ne (own_later O_hb.out hb) KX2 (by decide)))), hide ((own_later O_hp.out hb).kept hgf (Or.inr (own_blk_ne (own_later O_hp.out hb) KX2 (by decide)))), hide ((own_mono o1 HBW.size).kept hgf (Or.inr (own_blk_ne o1 KX2 (by decide)))), hide ((own_mono o2 HBW.size).kept hgf (Or.inr (own_blk_ne o2 KX2 (by decide)))), hide ((own_mono o3 HBW.size).kept hgf (Or.inr (own_blk_ne o3 KX2 (by decide))))⟩)
  clear hM KA KB KX HB O_tx O_hb O_hp
  obtain ⟨A_cb, c_cb, A_cp, c_cp, A_cs, c_cs, hM, KA, KB, KX, HB, O_tx, O_hb, O_hp, O_cb, O_cp, O_cs⟩ := hS
  refine wpList_nil ?_
  simp only [Exit.then]
  refine hK4 _ _ ?_
  clear hK4
  refine wp_seq_k fun K5 hK5 => ?_
  refine wp_region_lit ?_
  refine seg_cut5 (fun a' w' => ∃ (A_ds : Option Addr) (c_ds : Nat), Frm a' 22 [(1, .pointer (some ⟨w.heap.size, 0, none⟩)), (2, .pointer (some ⟨w.heap.size + 1, 0, none⟩)), (3, .pointer (some ⟨w.heap.size + 2, 0, none⟩))] ∧ Hid (Blk w' w.heap.size 42 C) ∧ Hid (Blk w' (w.heap.size + 1) 42 #[.int .i64 0, .int .i64 0, .int .i64 0, .int .i64 0, .int .i64 0, .int .i64 0, .slice none 0 0, .int .i64 0, .int .i64 0, .slice none 0 0, .slice none 0 0, .int .i64 0, .int .i64 0, .slice none 0 0, .slice none 0 0, .int .i64 0, .slice none 0 0, .slice none 0 0]) ∧ Hid (Blk w' (w.heap.size + 2) 42 #[.int .i64 x.k, .int .i64 x.f, .int .i64 x.t, .int .i64 x.d, .int .i64 x.b.a, .int .i64 x.b.n, .slice A_tx v.tx.n c_tx, .int .i64 x.h.a, .int .i64 x.h.r, .slice A_hb v.hb.n c_hb, .slice A_hp v.hp.n c_hp, .int .i64 x.c.h.a, .int .i64 x.c.h.r, .slice A_cb v.cb.n c_cb, .slice A_cp v.cp.n c_cp, .int .i64 x.c.d, .slice A_cs v.cs.n c_cs, .slice A_ds v.ds.n c_ds]) ∧ Hid (Below w.heap.size w w') ∧ Hid (w'.ownsRow w.heap.size 101 4 (.slice A_tx v.tx.n c_tx) v.tx.n (txsC x.b.l)) ∧ Hid (w'.ownsRow w.heap.size 3 1 (.slice A_hb v.hb.n c_hb) v.hb.n (ints x.h.bs)) ∧ Hid (w'.ownsRow w.heap.size 3 1 (.slice A_hp v.hp.n c_hp) v.hp.n (ints x.h.ps)) ∧ Hid (w'.ownsRow w.heap.size 3 1 (.slice A_cb v.cb.n c_cb) v.cb.n (ints x.c.h.bs)) ∧ Hid (w'.ownsRow w.heap.size 3 1 (.slice A_cp v.cp.n c_cp) v.cp.n (ints x.c.h.ps)) ∧ Hid (w'.ownsRow w.heap.size 3 1 (.slice A_cs v.cs.n c_cs) v.cs.n (ints x.c.ss)) ∧ Hid (w'.ownsRow w.heap.size 3 1 (.slice A_ds v.ds.n c_ds) v.ds.n (ints x.s)) ∧ Hid (ApX (.slice A_ds v.ds.n c_ds) [.slice A_tx v.tx.n c_tx, .slice A_hb v.hb.n c_hb, .slice A_hp v.hp.n c_hp, .slice A_cb v.cb.n c_cb, .slice A_cp v.cp.n c_cp, .slice A_cs v.cs.n c_cs])) (fun K hK => ?_) (fun a' w' hS => ?_)
  · have HBW := HB.out
    refine seg_val hM rfl (by omega) rfl (v := .pointer (some ⟨w.heap.size, 17, none⟩)) (w' := w') (by simp only [execOp, hM.ev (t := 1) (v := .pointer (some ⟨w.heap.size, 0, none⟩)) rfl]; simp [go_sem]) (fun a hM => ?_)
    have k0 : w'.cell? ⟨w.heap.size, 17, none⟩ = some (.slice v.ds.A v.ds.n v.ds.c) := KA.out.at_ (by rw [HC.out]; rfl)
    refine seg_val hM rfl (by omega) rfl (v := .slice v.ds.A v.ds.n v.ds.c) (w' := w') (by simp only [execOp, hM.ev (t := 17) (v := .pointer (some ⟨w.heap.size, 17, none⟩)) rfl]; simp [go_sem, k0]) (fun a hM => ?_)
    clear k0
    refine seg_callv (R := fun V W => ∃ (v1 : Value), V = v1 ∧ W.ownsRow w'.heap.size 3 1 (v1) v.ds.n (ints x.s) ∧ Below w'.heap.size w' W) hM rfl (by omega) rfl (f := 22) (args := #[.slice v.ds.A v.ds.n v.ds.c]) (by simp only [execOp, resolve, List.map_toArray, List.map_cons, List.map_nil, hM.ev (t := 18) (v := .slice v.ds.A v.ds.n v.ds.c) rfl]; simp [go_sem, Act.eval]) ((ref0_CopyNumbers v.ds.A v.ds.n v.ds.c x.s _ (HS.out.below HBW).ds (by have := HL.out.ds; omega) (by have := HL.out.ds; omega)).mono (by rintro e W ⟨v1, rfl, o1, hb⟩; exact ⟨_, rfl, v1, rfl, o1, hb⟩)) (fun V a wb hM hR => ?_)
    obtain ⟨v1, rfl, o1, hb⟩ := hR
    obtain ⟨A_ds, c_ds, rfl⟩ := own_slice o1
    refine seg_val hM rfl (by omega) rfl (v := .pointer (some ⟨w.heap.size + 2, 17, none⟩)) (w' := wb) (by simp only [execOp, hM.ev (t := 3) (v := .pointer (some ⟨w.heap.size + 2, 0, none⟩)) rfl]; simp [go_sem]) (fun a hM => ?_)
    have KX2 := KX.out.later hb
    have KA2 := KA.out.later hb
    have KB2 := KB.out.later hb
    refine seg_store_part hM rfl rfl rfl (w.heap.size + 2) 17 rfl 42 #[.int .i64 x.k, .int .i64 x.f, .int .i64 x.t, .int .i64 x.d, .int .i64 x.b.a, .int .i64 x.b.n, .slice A_tx v.tx.n c_tx, .int .i64 x.h.a, .int .i64 x.h.r, .slice A_hb v.hb.n c_hb, .slice A_hp v.hp.n c_hp, .int .i64 x.c.h.a, .int .i64 x.c.h.r, .slice A_cb v.cb.n c_cb, .slice A_cp v.cp.n c_cp, .int .i64 x.c.d, .slice A_cs v.cs.n c_cs, .slice v.ds.A v.ds.n v.ds.c] (.slice A_ds v.ds.n c_ds) rfl KX2 (by kernel_rfl) (by show 17 + 1 ≤ 18; omega) (by simp [Value.cells, Value.oneCell']) (fun wf KF hgf => ?_)
    have hAP : Hid (ApX (.slice A_ds v.ds.n c_ds) [.slice A_tx v.tx.n c_tx, .slice A_hb v.hb.n c_hb, .slice A_hp v.hp.n c_hp, .slice A_cb v.cb.n c_cb, .slice A_cp v.cp.n c_cp, .slice A_cs v.cs.n c_cs]) := by
      intro g hg z hz
      have h1 := (o1.lt g hg).1
      simp only [List.mem_cons, List.not_mem_nil, or_false] at hz
      rcases hz with rfl | rfl | rfl | rfl | rfl | rfl
      · intro e; have := (O_tx.out.lt g e).2; omega
      · intro e; have := (O_hb.out.lt g e).2; omega
      · intro e; have := (O_hp.out.lt g e).2; omega
      · intro e; have := (O_cb.out.lt g e).2; omega
      · intro e; have := (O_cp.out.lt g e).2; omega
      · intro e; have := (O_cs.out.lt g e).2; omega
    exact seg_nil (hK _ _ ⟨A_ds, c_ds, hM.weak (by intro p hp; simp only [List.mem_cons, List.not_mem_nil, or_false] at hp; rcases hp with rfl | rfl | rfl <;> rfl), hide (KA2.grown hgf (by simp)), hide (KB2.grown hgf (by simp)), hide KF, hide (below_of_grown (below_then HBW hb) hgf (below_then HBW hb).size (by omega)), hide ((own_later O_tx.out hb).kept hgf (Or.inr (own_blk_ne (own_later O_tx.out hb) KX2 (by decide)))), hide ((own_later O_hb.out hb).kept hgf (Or.inr (own_blk_ne (own_later O_hb.out hb) KX2 (by decide)))), hide ((own_later O_hp.out hb).kept hgf (Or.inr (own_blk_ne (own_later O_hp.out hb) KX2 (by decide)))), hide ((own_later O_cb.out hb).kept hgf (Or.inr (own_blk_ne (own_later O_cb.out hb) KX2 (by decide)))), hide ((own_later O_cp.out hb).kept hgf (Or.inr (own_blk_ne (own_later O_cp.out hb) KX2 (by decide)))), hide ((own_later O_cs.out hb).kept hgf (Or.inr (own_blk_ne (own_later O_cs.out hb) KX2 (by decide)))), hide ((own_mono o1 HBW.size).kept hgf (Or.inr (own_blk_ne o1 KX2 (by decide)))), hAP⟩)
  clear hM KA KB KX HB O_tx O_hb O_hp O_cb O_cp O_cs
  obtain ⟨A_ds, c_ds, hM, KA, KB, KX, HB, O_tx, O_hb, O_hp, O_cb, O_cp, O_cs, O_ds, HAP⟩ := hS
  refine wpList_nil ?_
  simp only [Exit.then]
  refine hK5 _ _ ?_
  clear hK5
  obtain ⟨E, HE⟩ : ∃ E : Array Value, Hid (E = #[.int .i64 x.k, .int .i64 x.f, .int .i64 x.t, .int .i64 x.d, .int .i64 x.b.a, .int .i64 x.b.n, .slice A_tx v.tx.n c_tx, .int .i64 x.h.a, .int .i64 x.h.r, .slice A_hb v.hb.n c_hb, .slice A_hp v.hp.n c_hp, .int .i64 x.c.h.a, .int .i64 x.c.h.r, .slice A_cb v.cb.n c_cb, .slice A_cp v.cp.n c_cp, .int .i64 x.c.d, .slice A_cs v.cs.n c_cs, .slice A_ds v.ds.n c_ds]) := ⟨_, rfl⟩
  rw [← HE.out] at KX
  have HES : Hid (E.size = 18) := by rw [Hid, HE.out]; rfl
  have HE1 : Hid (∀ z ∈ E.toList, z.oneCell' = true) := by rw [HE.out]; simp [Hid, Value.oneCell']
  refine wp_seq_k fun K6 hK6 => ?_
  refine wp_region_lit ?_
  refine seg_cut2 (fun a' w' => Frm a' 22 [(2, .pointer (some ⟨w.heap.size + 1, 0, none⟩))] ∧ Hid (Blk w' (w.heap.size + 1) 42 E) ∧ Hid (MsO w.heap.size w' x (⟨⟨A_tx, v.tx.n, c_tx⟩, ⟨A_hb, v.hb.n, c_hb⟩, ⟨A_hp, v.hp.n, c_hp⟩, ⟨A_cb, v.cb.n, c_cb⟩, ⟨A_cp, v.cp.n, c_cp⟩, ⟨A_cs, v.cs.n, c_cs⟩, ⟨A_ds, v.ds.n, c_ds⟩⟩ : MsV)) ∧ Hid (Below w.heap.size w w')) (fun K hK => ?_) (fun a' w' hS => ?_)
  · have HBW := HB.out
    refine seg_val hM rfl (by omega) rfl (v := .agg E) (w' := w') (run_load_blk rfl (w.heap.size + 2) (hM.ev (t := 3) rfl) 42 E _ KX.out Try.underlying42 rfl (by rw [HES.out]; exact Try.infoMsg)) (fun a hM => ?_)
    refine seg_store_row hM rfl rfl rfl (w.heap.size + 1) rfl 42 #[.int .i64 0, .int .i64 0, .int .i64 0, .int .i64 0, .int .i64 0, .int .i64 0, .slice none 0 0, .int .i64 0, .int .i64 0, .slice none 0 0, .slice none 0 0, .int .i64 0, .int .i64 0, .slice none 0 0, .slice none 0 0, .int .i64 0, .slice none 0 0, .slice none 0 0] (.agg E) rfl KB.out (by show _ = some E.size; rw [HES.out]; exact Try.infoMsg) (by show _ = E.size; rw [HES.out]; rfl) HE1.out (fun wf KF hgf => ?_)
    exact seg_nil (hK _ _ ⟨hM.weak (by intro p hp; simp only [List.mem_cons, List.not_mem_nil, or_false] at hp; subst hp; rfl), hide KF, ⟨O_tx.out.kept hgf (Or.inr (own_blk_ne O_tx.out KB.out (by decide))), O_hb.out.kept hgf (Or.inr (own_blk_ne O_hb.out KB.out (by decide))), O_hp.out.kept hgf (Or.inr (own_blk_ne O_hp.out KB.out (by decide))), O_cb.out.kept hgf (Or.inr (own_blk_ne O_cb.out KB.out (by decide))), O_cp.out.kept hgf (Or.inr (own_blk_ne O_cp.out KB.out (by decide))), O_cs.out.kept hgf (Or.inr (own_blk_ne O_cs.out KB.out (by decide))), O_ds.out.kept hgf (Or.inr (own_blk_ne O_ds.out KB.out (by decide)))⟩, hide (below_of_grown HBW hgf HBW.size (by omega))⟩)
  obtain ⟨hM, KF, HO, HBF⟩ := hS
  refine wpList_nil ?_
  simp only [Exit.then]
  refine hK6 _ _ ?_
  apply wp_ret
  have e2 : a'.tmps.getD 2 undef = .pointer (some ⟨w.heap.size + 1, 0, none⟩) := hM.ev (t := 2) rfl
  refine bodyPost_ret (results_cell_row1 Try.results17 _ _ _ _ _ _ _ e2 KF.out Try.underlying42 rfl (by rw [HES.out]; exact Try.infoMsg)) hM.2.1 ?_
  exact ⟨E, ⟨⟨A_tx, v.tx.n, c_tx⟩, ⟨A_hb, v.hb.n, c_hb⟩, ⟨A_hp, v.hp.n, c_hp⟩, ⟨A_cb, v.cb.n, c_cb⟩, ⟨A_cp, v.cp.n, c_cp⟩, ⟨A_cs, v.cs.n, c_cs⟩, ⟨A_ds, v.ds.n, c_ds⟩⟩, rfl, ⟨HE.out, HO.out, ⟨rfl, rfl, rfl, rfl, rfl, rfl, rfl⟩, HAP.out⟩, HBF.out⟩
end Go.Proofs.Ytebaojcfmkobjaa
