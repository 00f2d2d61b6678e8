/-
  Contracts: what a message's kind names of it: the program's.
-/
import Derived.Test.YtebaojcfmkobjaaGr03
import Derived.Test.YtebaojcfmkobjaaGr04
import Derived.Deep.RegionHeld3
import Derived.Deep.DeepCutAuto
import Derived.Test.YtebaojcfmkobjaaGr00
set_option linter.unusedVariables false
set_option linter.unusedSimpArgs false
namespace Go.Proofs.Ytebaojcfmkobjaa
open Go.RowKit

/-- A slice's value; those of a message. -/
structure SlV where
  A : Option Addr
  n : Nat
  c : Nat
def SlV.v (s : SlV) : Value := .slice s.A s.n s.c
def nilV : SlV := ⟨none, 0, 0⟩
structure MsV where
  tx : SlV
  hb : SlV
  hp : SlV
  cb : SlV
  cp : SlV
  cs : SlV
  ds : SlV
def zV : MsV := ⟨nilV, nilV, nilV, nilV, nilV, nilV, nilV⟩
def msC (x : MsD) (v : MsV) : Array Value := #[.int .i64 x.k, .int .i64 x.f, .int .i64 x.t, .int .i64 x.d, .int .i64 x.b.a, .int .i64 x.b.n, v.tx.v, .int .i64 x.h.a, .int .i64 x.h.r, v.hb.v, v.hp.v,
  .int .i64 x.c.h.a, .int .i64 x.c.h.r, v.cb.v, v.cp.v, .int .i64 x.c.d, v.cs.v, v.ds.v]
structure MsS (w : World) (x : MsD) (v : MsV) : Prop where
  tx : Sl w 4 v.tx.A v.tx.n (txsC x.b.l)
  hb : Sl w 1 v.hb.A v.hb.n (ints x.h.bs)
  hp : Sl w 1 v.hp.A v.hp.n (ints x.h.ps)
  cb : Sl w 1 v.cb.A v.cb.n (ints x.c.h.bs)
  cp : Sl w 1 v.cp.A v.cp.n (ints x.c.h.ps)
  cs : Sl w 1 v.cs.A v.cs.n (ints x.c.ss)
  ds : Sl w 1 v.ds.A v.ds.n (ints x.s)
theorem MsS.below {w w' : World} {x : MsD} {v : MsV} (h : MsS w x v) (hb : Below w.heap.size w w') : MsS w' x v :=
  ⟨h.tx.below hb, h.hb.below hb, h.hp.below hb, h.cb.below hb, h.cp.below hb, h.cs.below hb, h.ds.below hb⟩
/-- No longer than can be. -/
structure MsZ (x : MsD) (v : MsV) : Prop where
  txz : TxZ x.b.l
  tx : v.tx.n ≤ 9223372036854775807
  hb : v.hb.n ≤ 9223372036854775807
  hp : v.hp.n ≤ 9223372036854775807
  cb : v.cb.n ≤ 9223372036854775807
  cp : v.cp.n ≤ 9223372036854775807
  cs : v.cs.n ≤ 9223372036854775807
  ds : v.ds.n ≤ 9223372036854775807
def onlyV (k : Int) (v : MsV) : MsV := ⟨if hasB k then v.tx else nilV, if hasH k then v.hb else nilV, if hasH k then v.hp else nilV, if hasC k then v.cb else nilV, if hasC k then v.cp else nilV, if hasC k then v.cs else nilV, if hasS k then v.ds else nilV⟩
theorem Try.infoMsg : (Try.prog.info? 42).map (·.size) = some 18 := by kernel_rfl
theorem results_cell_row2 {P : Program} {fn : Func} {p q : Tmp} {ty : TypeId} (h : fn.results = #[.cell p ty, .tmp q]) (tmps : Array Value) (w : World) (g : Nat) (t : TypeId) (cs : Array Value) (fr : Nat × Nat) (d : TypeDesc)
    (hp : tmps.getD p undef = .pointer (some ⟨g, 0, none⟩)) (hg : w.heap[g]? = some (.cells cs t fr))
    (hu : P.underlying ty = some d) (hd : (match d with | .struct _ | .array _ _ => true | _ => false) = true) (hi : (P.info? ty).map (·.size) = some cs.size) :
    (results fn tmps).run P w = .ok (.tuple #[.agg cs, tmps.getD q undef]) w := by
  have hp' : tmps[p]?.getD undef = .pointer (some ⟨g, 0, none⟩) := by simpa using hp
  simp [results, h, hp', asAddr, run_loadVar_row w g t ty cs fr d hg hu hd hi]
theorem ret_pair2 {C D : Array Value} {a b : Bool} (hc : C = D) (h : a = b) : Ending.returned (.tuple #[.agg C, .bool a]) = .returned (.tuple #[.agg D, .bool b]) := by rw [hc, h]

set_option maxRecDepth 100000 in
set_option maxHeartbeats 2000000 in
theorem only_1 {A1 A2 A3 A4 A5 A6 A7 : Option Addr} {n1 c1 n2 c2 n3 c3 n4 c4 n5 c5 n6 c6 n7 c7 : Nat} (n f t d ba bn ha hr ca cr cd : Int) (l : List TxD) (hbs hps cbs cps ss ds : List Int) (w : World)
    (HS0 : Hid (MsS w ⟨1, f, t, d, ⟨ba, bn, l⟩, ⟨ha, hr, hbs, hps⟩, ⟨⟨ca, cr, cbs, cps⟩, cd, ss⟩, ds⟩ ⟨⟨A1, n1, c1⟩, ⟨A2, n2, c2⟩, ⟨A3, n3, c3⟩, ⟨A4, n4, c4⟩, ⟨A5, n5, c5⟩, ⟨A6, n6, c6⟩, ⟨A7, n7, c7⟩⟩)) (HTZ : Hid (TxZ l))
    (hz1 : n1 ≤ 9223372036854775807) (hz2 : n2 ≤ 9223372036854775807) (hz3 : n3 ≤ 9223372036854775807) (hz4 : n4 ≤ 9223372036854775807) (hz5 : n5 ≤ 9223372036854775807) (hz6 : n6 ≤ 9223372036854775807) (hz7 : n7 ≤ 9223372036854775807) {r : Bool} (HR2 : Hid (r = (digO d && (mayB ba bn l && decide (ba ≤ n))))) {C : Array Value} (HC : Hid (C = #[.int .i64 1, .int .i64 f, .int .i64 t, .int .i64 d, .int .i64 ba, .int .i64 bn, .slice A1 n1 c1, .int .i64 ha, .int .i64 hr, .slice A2 n2 c2, .slice A3 n3 c3, .int .i64 ca, .int .i64 cr, .slice A4 n4 c4, .slice A5 n5 c5, .int .i64 cd, .slice A6 n6 c6, .slice A7 n7 c7])) :
    Calls Try.prog 66 #[.agg C, .int .i64 n] w fun e w' => e = .returned (.tuple #[.agg #[.int .i64 1, .int .i64 f, .int .i64 t, .int .i64 d, .int .i64 ba, .int .i64 bn, .slice A1 n1 c1, .int .i64 0, .int .i64 0, .slice none 0 0, .slice none 0 0, .int .i64 0, .int .i64 0, .slice none 0 0, .slice none 0 0, .int .i64 0, .slice none 0 0, .slice none 0 0], .bool r]) ∧ Below w.heap.size w w' := by
  go_enter Try.func66, Try.ntmps66
  go_upto_region 1 with fail
  have kr := Blk.new2 w (.cells C 42) 42 #[.int .i64 0, .int .i64 0, .int .i64 0, .int .i64 0, .int .i64 0, .int .i64 0, .slice none 0 0, .int .i64 0, .int .i64 0, .slice none 0 0, .slice none 0 0, .int .i64 0, .int .i64 0, .slice none 0 0, .slice none 0 0, .int .i64 0, .slice none 0 0, .slice none 0 0]
  have ka := (Blk.new w 42 C).alloc (.cells #[.int .i64 0, .int .i64 0, .int .i64 0, .int .i64 0, .int .i64 0, .int .i64 0, .slice none 0 0, .int .i64 0, .int .i64 0, .slice none 0 0, .slice none 0 0, .int .i64 0, .int .i64 0, .slice none 0 0, .slice none 0 0, .int .i64 0, .slice none 0 0, .slice none 0 0] 42)
  have hb : Below w.heap.size w ((w.alloc (.cells C 42)).alloc (.cells #[.int .i64 0, .int .i64 0, .int .i64 0, .int .i64 0, .int .i64 0, .int .i64 0, .slice none 0 0, .int .i64 0, .int .i64 0, .slice none 0 0, .slice none 0 0, .int .i64 0, .int .i64 0, .slice none 0 0, .slice none 0 0, .int .i64 0, .slice none 0 0, .slice none 0 0] 42)) := (below_alloc' w _).alloc (by simp) _
  generalize (w.alloc (.cells C 42)).alloc (.cells #[.int .i64 0, .int .i64 0, .int .i64 0, .int .i64 0, .int .i64 0, .int .i64 0, .slice none 0 0, .int .i64 0, .int .i64 0, .slice none 0 0, .slice none 0 0, .int .i64 0, .int .i64 0, .slice none 0 0, .slice none 0 0, .int .i64 0, .slice none 0 0, .slice none 0 0] 42) = w1 at ka kr hb ⊢
  have a0 : w1.cell? ⟨w.heap.size, 0, none⟩ = some (.int .i64 1) := ka.at_ (by rw [HC.out]; rfl)
  have a1 : w1.cell? ⟨w.heap.size, 1, none⟩ = some (.int .i64 f) := ka.at_ (by rw [HC.out]; rfl)
  have a2 : w1.cell? ⟨w.heap.size, 2, none⟩ = some (.int .i64 t) := ka.at_ (by rw [HC.out]; rfl)
  go_wp2_with (refine wpList_store_row rfl 42 (.tmp 4) (.tmp 12) rfl _ rfl 42 _ (.agg #[.int .i64 1, .int .i64 f, .int .i64 t, .int .i64 0, .int .i64 0, .int .i64 0, .slice none 0 0, .int .i64 0, .int .i64 0, .slice none 0 0, .slice none 0 0, .int .i64 0, .int .i64 0, .slice none 0 0, .slice none 0 0, .int .i64 0, .slice none 0 0, .slice none 0 0]) rfl kr Try.infoMsg rfl (by simp [Value.cells, Value.oneCell']) ?_)
  intro w2 kr2' hg2
  have kr2 : Blk w2 (w.heap.size + 1) 42 #[.int .i64 1, .int .i64 f, .int .i64 t, .int .i64 0, .int .i64 0, .int .i64 0, .slice none 0 0, .int .i64 0, .int .i64 0, .slice none 0 0, .slice none 0 0, .int .i64 0, .int .i64 0, .slice none 0 0, .slice none 0 0, .int .i64 0, .slice none 0 0, .slice none 0 0] := kr2'
  have hb2 : Below w.heap.size w w2 := hb.grown hg2 (by have := ka.lt; omega) (fun g e => by injection e with e; omega)
  have ka2 := ka.grown hg2 (by intro e; injection e with e; omega)
  clear ka kr hb a0 a1 a2 hg2 kr2'
  generalize (Value.agg #[.int .i64 1, .int .i64 f, .int .i64 t, .int .i64 0, .int .i64 0, .int .i64 0, .slice none 0 0, .int .i64 0, .int .i64 0, .slice none 0 0, .slice none 0 0, .int .i64 0, .int .i64 0, .slice none 0 0, .slice none 0 0, .int .i64 0, .slice none 0 0, .slice none 0 0]) = V2
  have a0 : w2.cell? ⟨w.heap.size, 0, none⟩ = some (.int .i64 1) := ka2.at_ (by rw [HC.out]; rfl)
  have a23 : w2.cell? ⟨w.heap.size, 3, none⟩ = some (.int .i64 d) := ka2.at_ (by rw [HC.out]; rfl)
  have a24 : w2.cell? ⟨w.heap.size, 4, none⟩ = some (.int .i64 ba) := ka2.at_ (by rw [HC.out]; rfl)
  have a25 : w2.cell? ⟨w.heap.size, 5, none⟩ = some (.int .i64 bn) := ka2.at_ (by rw [HC.out]; rfl)
  have a26 : w2.cell? ⟨w.heap.size, 6, none⟩ = some (.slice A1 n1 c1) := ka2.at_ (by rw [HC.out]; rfl)
  have r3 : w2.cell? ⟨w.heap.size + 1, 3, none⟩ = some (.int .i64 0) := kr2.at_ rfl
  have f3 := kr2.frozen 3
  have r4 : w2.cell? ⟨w.heap.size + 1, 4, none⟩ = some (.int .i64 0) := kr2.at_ rfl
  have f4 := kr2.frozen 4
  have r5 : w2.cell? ⟨w.heap.size + 1, 5, none⟩ = some (.int .i64 0) := kr2.at_ rfl
  have f5 := kr2.frozen 5
  have r6 : w2.cell? ⟨w.heap.size + 1, 6, none⟩ = some (.slice none 0 0) := kr2.at_ rfl
  have f6 := kr2.frozen 6
  have KK := hide (And.intro ((((kr2.set_ 3 (.int .i64 d)).set_ 4 (.int .i64 ba)).set_ 5 (.int .i64 bn)).set_ 6 (.slice A1 n1 c1)) (And.intro ((((ka2.far (p := ⟨w.heap.size + 1, 3, none⟩) (by simp) (.int .i64 d)).far (p := ⟨w.heap.size + 1, 4, none⟩) (by simp) (.int .i64 ba)).far (p := ⟨w.heap.size + 1, 5, none⟩) (by simp) (.int .i64 bn)).far (p := ⟨w.heap.size + 1, 6, none⟩) (by simp) (.slice A1 n1 c1)) ((((hb2.setCell (p := ⟨w.heap.size + 1, 3, none⟩) (by simp) (.int .i64 d)).setCell (p := ⟨w.heap.size + 1, 4, none⟩) (by simp) (.int .i64 ba)).setCell (p := ⟨w.heap.size + 1, 5, none⟩) (by simp) (.int .i64 bn)).setCell (p := ⟨w.heap.size + 1, 6, none⟩) (by simp) (.slice A1 n1 c1))))
  clear kr2 ka2 hb2
  go_upto_region 5 with fail
  go_region
  go_upto_region 6 with fail
  generalize (((w2.setCell ⟨w.heap.size + 1, 3, none⟩ (.int .i64 d)).setCell ⟨w.heap.size + 1, 4, none⟩ (.int .i64 ba)).setCell ⟨w.heap.size + 1, 5, none⟩ (.int .i64 bn)).setCell ⟨w.heap.size + 1, 6, none⟩ (.slice A1 n1 c1) = w3 at KK ⊢
  obtain ⟨kr3, ka3, hb3⟩ := KK.out
  clear KK a0 a23 r3 f3 a24 r4 f4 a25 r5 f5 a26 r6 f6
  have hb3 := hb3.drew
  have kr3 := kr3.drew
  have ka3 := ka3.drew
  generalize w3.drew = w4 at kr3 ka3 hb3 ⊢
  have HS4 := hide (HS0.out.below hb3)
  have b3 : w4.cell? ⟨w.heap.size, 3, none⟩ = some (.int .i64 d) := ka3.at_ (by rw [HC.out]; rfl)
  have b4 : w4.cell? ⟨w.heap.size, 4, none⟩ = some (.int .i64 ba) := ka3.at_ (by rw [HC.out]; rfl)
  have b5 : w4.cell? ⟨w.heap.size, 5, none⟩ = some (.int .i64 bn) := ka3.at_ (by rw [HC.out]; rfl)
  have b6 : w4.cell? ⟨w.heap.size, 6, none⟩ = some (.slice A1 n1 c1) := ka3.at_ (by rw [HC.out]; rfl)
  obtain ⟨pd, HD⟩ : ∃ p, Hid (digO d = p) := ⟨_, rfl⟩
  rw [HD.out] at HR2
  obtain ⟨pb, HPB⟩ : ∃ p, Hid (mayB ba bn l = p) := ⟨_, rfl⟩
  rw [HPB.out] at HR2
  go_wp2_with fail
  refine (com_Digest d _).mono ?_
  rintro e w' ⟨rfl, rfl⟩
  rw [HD.out]
  cases pd with
  | false =>
    have kr5 := kr3
    have hb5 := hb3
    obtain ⟨FA, HFA⟩ : ∃ FA : Array Value, Hid (FA = #[.int .i64 1, .int .i64 f, .int .i64 t, .int .i64 d, .int .i64 ba, .int .i64 bn, .slice A1 n1 c1, .int .i64 0, .int .i64 0, .slice none 0 0, .slice none 0 0, .int .i64 0, .int .i64 0, .slice none 0 0, .slice none 0 0, .int .i64 0, .slice none 0 0, .slice none 0 0]) := ⟨_, rfl⟩
    have HFS : Hid (FA.size = 18) := by rw [Hid, HFA.out]; rfl
    have HF1 : Hid (∀ u ∈ FA.toList, u.oneCell' = true) := by rw [Hid, HFA.out]; simp [Value.oneCell']
    have kr6 : Blk w4 (w.heap.size + 1) 42 FA := by rw [HFA.out]; exact kr5
    clear kr5
    go_wp2_with (first
      | (refine wpList_load_blk rfl 42 (.tmp 4) rfl _ rfl 42 FA _ kr6 Try.underlying42 rfl (by rw [HFS.out]; exact Try.infoMsg) ?_)
      | (refine wpList_store_row rfl 42 (.tmp 4) (.tmp 103) rfl _ rfl 42 FA (.agg FA) rfl kr6 (by rw [show (Value.agg FA).cells = FA from rfl, HFS.out]; exact Try.infoMsg) rfl HF1.out ?_))
    intro w7 kr7' hg7
    have kr7 : Blk w7 (w.heap.size + 1) 42 FA := kr7'
    have hb7 : Below w.heap.size w w7 := hb5.grown hg7 hb5.size (fun g e => by injection e with e; omega)
    clear hg7 kr6 hb5 kr7'
    go_wp2_with fail
    exact bodyPost_ret (results_cell_row2 Try.results66 _ _ _ _ _ _ _ rfl kr7 Try.underlying42 rfl (by rw [HFS.out]; exact Try.infoMsg)) rfl ⟨ret_pair2 HFA.out (by rw [HR2.out] <;> (simp)), hb7⟩
  | true =>
    go_wp2_with fail
    refine (batch_May ba bn _ HS4.out.tx hz1 HTZ.out HPB).mono ?_
    rintro e w5 ⟨rfl, hb4'⟩
    have b4 : w5.cell? ⟨w.heap.size, 4, none⟩ = some (.int .i64 ba) := (ka3.later hb4').at_ (by rw [HC.out]; rfl)
    have kr4 := kr3.later hb4'
    have hb4 := below_then hb3 hb4'
    cases pb with
    | false =>
      have kr5 := kr4
      have hb5 := hb4
      obtain ⟨FA, HFA⟩ : ∃ FA : Array Value, Hid (FA = #[.int .i64 1, .int .i64 f, .int .i64 t, .int .i64 d, .int .i64 ba, .int .i64 bn, .slice A1 n1 c1, .int .i64 0, .int .i64 0, .slice none 0 0, .slice none 0 0, .int .i64 0, .int .i64 0, .slice none 0 0, .slice none 0 0, .int .i64 0, .slice none 0 0, .slice none 0 0]) := ⟨_, rfl⟩
      have HFS : Hid (FA.size = 18) := by rw [Hid, HFA.out]; rfl
      have HF1 : Hid (∀ u ∈ FA.toList, u.oneCell' = true) := by rw [Hid, HFA.out]; simp [Value.oneCell']
      have kr6 : Blk w5 (w.heap.size + 1) 42 FA := by rw [HFA.out]; exact kr5
      clear kr5
      go_wp2_with (first
        | (refine wpList_load_blk rfl 42 (.tmp 4) rfl _ rfl 42 FA _ kr6 Try.underlying42 rfl (by rw [HFS.out]; exact Try.infoMsg) ?_)
        | (refine wpList_store_row rfl 42 (.tmp 4) (.tmp 103) rfl _ rfl 42 FA (.agg FA) rfl kr6 (by rw [show (Value.agg FA).cells = FA from rfl, HFS.out]; exact Try.infoMsg) rfl HF1.out ?_))
      intro w7 kr7' hg7
      have kr7 : Blk w7 (w.heap.size + 1) 42 FA := kr7'
      have hb7 : Below w.heap.size w w7 := hb5.grown hg7 hb5.size (fun g e => by injection e with e; omega)
      clear hg7 kr6 hb5 kr7'
      go_wp2_with fail
      exact bodyPost_ret (results_cell_row2 Try.results66 _ _ _ _ _ _ _ rfl kr7 Try.underlying42 rfl (by rw [HFS.out]; exact Try.infoMsg)) rfl ⟨ret_pair2 HFA.out (by rw [HR2.out] <;> (simp)), hb7⟩
    | true =>
      have kr5 := kr4
      have hb5 := hb4
      obtain ⟨FA, HFA⟩ : ∃ FA : Array Value, Hid (FA = #[.int .i64 1, .int .i64 f, .int .i64 t, .int .i64 d, .int .i64 ba, .int .i64 bn, .slice A1 n1 c1, .int .i64 0, .int .i64 0, .slice none 0 0, .slice none 0 0, .int .i64 0, .int .i64 0, .slice none 0 0, .slice none 0 0, .int .i64 0, .slice none 0 0, .slice none 0 0]) := ⟨_, rfl⟩
      have HFS : Hid (FA.size = 18) := by rw [Hid, HFA.out]; rfl
      have HF1 : Hid (∀ u ∈ FA.toList, u.oneCell' = true) := by rw [Hid, HFA.out]; simp [Value.oneCell']
      have kr6 : Blk w5 (w.heap.size + 1) 42 FA := by rw [HFA.out]; exact kr5
      clear kr5
      go_wp2_with (first
        | (refine wpList_load_blk rfl 42 (.tmp 4) rfl _ rfl 42 FA _ kr6 Try.underlying42 rfl (by rw [HFS.out]; exact Try.infoMsg) ?_)
        | (refine wpList_store_row rfl 42 (.tmp 4) (.tmp 103) rfl _ rfl 42 FA (.agg FA) rfl kr6 (by rw [show (Value.agg FA).cells = FA from rfl, HFS.out]; exact Try.infoMsg) rfl HF1.out ?_))
      intro w7 kr7' hg7
      have kr7 : Blk w7 (w.heap.size + 1) 42 FA := kr7'
      have hb7 : Below w.heap.size w w7 := hb5.grown hg7 hb5.size (fun g e => by injection e with e; omega)
      clear hg7 kr6 hb5 kr7'
      go_wp2_with fail
      exact bodyPost_ret (results_cell_row2 Try.results66 _ _ _ _ _ _ _ rfl kr7 Try.underlying42 rfl (by rw [HFS.out]; exact Try.infoMsg)) rfl ⟨ret_pair2 HFA.out (by rw [HR2.out] <;> (simp)), hb7⟩
set_option maxRecDepth 100000 in
set_option maxHeartbeats 2000000 in
theorem only_2 {A1 A2 A3 A4 A5 A6 A7 : Option Addr} {n1 c1 n2 c2 n3 c3 n4 c4 n5 c5 n6 c6 n7 c7 : Nat} (n f t d ba bn ha hr ca cr cd : Int) (l : List TxD) (hbs hps cbs cps ss ds : List Int) (w : World)
    (HS0 : Hid (MsS w ⟨2, f, t, d, ⟨ba, bn, l⟩, ⟨ha, hr, hbs, hps⟩, ⟨⟨ca, cr, cbs, cps⟩, cd, ss⟩, ds⟩ ⟨⟨A1, n1, c1⟩, ⟨A2, n2, c2⟩, ⟨A3, n3, c3⟩, ⟨A4, n4, c4⟩, ⟨A5, n5, c5⟩, ⟨A6, n6, c6⟩, ⟨A7, n7, c7⟩⟩)) (HTZ : Hid (TxZ l))
    (hz1 : n1 ≤ 9223372036854775807) (hz2 : n2 ≤ 9223372036854775807) (hz3 : n3 ≤ 9223372036854775807) (hz4 : n4 ≤ 9223372036854775807) (hz5 : n5 ≤ 9223372036854775807) (hz6 : n6 ≤ 9223372036854775807) (hz7 : n7 ≤ 9223372036854775807) {r : Bool} (HR2 : Hid (r = (digO d))) {C : Array Value} (HC : Hid (C = #[.int .i64 2, .int .i64 f, .int .i64 t, .int .i64 d, .int .i64 ba, .int .i64 bn, .slice A1 n1 c1, .int .i64 ha, .int .i64 hr, .slice A2 n2 c2, .slice A3 n3 c3, .int .i64 ca, .int .i64 cr, .slice A4 n4 c4, .slice A5 n5 c5, .int .i64 cd, .slice A6 n6 c6, .slice A7 n7 c7])) :
    Calls Try.prog 66 #[.agg C, .int .i64 n] w fun e w' => e = .returned (.tuple #[.agg #[.int .i64 2, .int .i64 f, .int .i64 t, .int .i64 d, .int .i64 0, .int .i64 0, .slice none 0 0, .int .i64 0, .int .i64 0, .slice none 0 0, .slice none 0 0, .int .i64 0, .int .i64 0, .slice none 0 0, .slice none 0 0, .int .i64 0, .slice none 0 0, .slice none 0 0], .bool r]) ∧ Below w.heap.size w w' := by
  go_enter Try.func66, Try.ntmps66
  go_upto_region 1 with fail
  have kr := Blk.new2 w (.cells C 42) 42 #[.int .i64 0, .int .i64 0, .int .i64 0, .int .i64 0, .int .i64 0, .int .i64 0, .slice none 0 0, .int .i64 0, .int .i64 0, .slice none 0 0, .slice none 0 0, .int .i64 0, .int .i64 0, .slice none 0 0, .slice none 0 0, .int .i64 0, .slice none 0 0, .slice none 0 0]
  have ka := (Blk.new w 42 C).alloc (.cells #[.int .i64 0, .int .i64 0, .int .i64 0, .int .i64 0, .int .i64 0, .int .i64 0, .slice none 0 0, .int .i64 0, .int .i64 0, .slice none 0 0, .slice none 0 0, .int .i64 0, .int .i64 0, .slice none 0 0, .slice none 0 0, .int .i64 0, .slice none 0 0, .slice none 0 0] 42)
  have hb : Below w.heap.size w ((w.alloc (.cells C 42)).alloc (.cells #[.int .i64 0, .int .i64 0, .int .i64 0, .int .i64 0, .int .i64 0, .int .i64 0, .slice none 0 0, .int .i64 0, .int .i64 0, .slice none 0 0, .slice none 0 0, .int .i64 0, .int .i64 0, .slice none 0 0, .slice none 0 0, .int .i64 0, .slice none 0 0, .slice none 0 0] 42)) := (below_alloc' w _).alloc (by simp) _
  generalize (w.alloc (.cells C 42)).alloc (.cells #[.int .i64 0, .int .i64 0, .int .i64 0, .int .i64 0, .int .i64 0, .int .i64 0, .slice none 0 0, .int .i64 0, .int .i64 0, .slice none 0 0, .slice none 0 0, .int .i64 0, .int .i64 0, .slice none 0 0, .slice none 0 0, .int .i64 0, .slice none 0 0, .slice none 0 0] 42) = w1 at ka kr hb ⊢
  have a0 : w1.cell? ⟨w.heap.size, 0, none⟩ = some (.int .i64 2) := ka.at_ (by rw [HC.out]; rfl)
  have a1 : w1.cell? ⟨w.heap.size, 1, none⟩ = some (.int .i64 f) := ka.at_ (by rw [HC.out]; rfl)
  have a2 : w1.cell? ⟨w.heap.size, 2, none⟩ = some (.int .i64 t) := ka.at_ (by rw [HC.out]; rfl)
  go_wp2_with (refine wpList_store_row rfl 42 (.tmp 4) (.tmp 12) rfl _ rfl 42 _ (.agg #[.int .i64 2, .int .i64 f, .int .i64 t, .int .i64 0, .int .i64 0, .int .i64 0, .slice none 0 0, .int .i64 0, .int .i64 0, .slice none 0 0, .slice none 0 0, .int .i64 0, .int .i64 0, .slice none 0 0, .slice none 0 0, .int .i64 0, .slice none 0 0, .slice none 0 0]) rfl kr Try.infoMsg rfl (by simp [Value.cells, Value.oneCell']) ?_)
  intro w2 kr2' hg2
  have kr2 : Blk w2 (w.heap.size + 1) 42 #[.int .i64 2, .int .i64 f, .int .i64 t, .int .i64 0, .int .i64 0, .int .i64 0, .slice none 0 0, .int .i64 0, .int .i64 0, .slice none 0 0, .slice none 0 0, .int .i64 0, .int .i64 0, .slice none 0 0, .slice none 0 0, .int .i64 0, .slice none 0 0, .slice none 0 0] := kr2'
  have hb2 : Below w.heap.size w w2 := hb.grown hg2 (by have := ka.lt; omega) (fun g e => by injection e with e; omega)
  have ka2 := ka.grown hg2 (by intro e; injection e with e; omega)
  clear ka kr hb a0 a1 a2 hg2 kr2'
  generalize (Value.agg #[.int .i64 2, .int .i64 f, .int .i64 t, .int .i64 0, .int .i64 0, .int .i64 0, .slice none 0 0, .int .i64 0, .int .i64 0, .slice none 0 0, .slice none 0 0, .int .i64 0, .int .i64 0, .slice none 0 0, .slice none 0 0, .int .i64 0, .slice none 0 0, .slice none 0 0]) = V2
  have a0 : w2.cell? ⟨w.heap.size, 0, none⟩ = some (.int .i64 2) := ka2.at_ (by rw [HC.out]; rfl)
  have a23 : w2.cell? ⟨w.heap.size, 3, none⟩ = some (.int .i64 d) := ka2.at_ (by rw [HC.out]; rfl)
  have r3 : w2.cell? ⟨w.heap.size + 1, 3, none⟩ = some (.int .i64 0) := kr2.at_ rfl
  have f3 := kr2.frozen 3
  have KK := hide (And.intro (kr2.set_ 3 (.int .i64 d)) (And.intro (ka2.far (p := ⟨w.heap.size + 1, 3, none⟩) (by simp) (.int .i64 d)) (hb2.setCell (p := ⟨w.heap.size + 1, 3, none⟩) (by simp) (.int .i64 d))))
  clear kr2 ka2 hb2
  go_upto_region 10 with fail
  generalize w2.setCell ⟨w.heap.size + 1, 3, none⟩ (.int .i64 d) = w3 at KK ⊢
  obtain ⟨kr3, ka3, hb3⟩ := KK.out
  clear KK a0 a23 r3 f3
  obtain ⟨w4, rfl⟩ : ∃ wo : World, wo = w3 := ⟨_, rfl⟩
  have HS4 := hide (HS0.out.below hb3)
  have b3 : w4.cell? ⟨w.heap.size, 3, none⟩ = some (.int .i64 d) := ka3.at_ (by rw [HC.out]; rfl)
  obtain ⟨pd, HD⟩ : ∃ p, Hid (digO d = p) := ⟨_, rfl⟩
  rw [HD.out] at HR2
  go_wp2_with fail
  refine (com_Digest d _).mono ?_
  rintro e w' ⟨rfl, rfl⟩
  rw [HD.out]
  have kr5 := kr3
  have hb5 := hb3
  obtain ⟨FA, HFA⟩ : ∃ FA : Array Value, Hid (FA = #[.int .i64 2, .int .i64 f, .int .i64 t, .int .i64 d, .int .i64 0, .int .i64 0, .slice none 0 0, .int .i64 0, .int .i64 0, .slice none 0 0, .slice none 0 0, .int .i64 0, .int .i64 0, .slice none 0 0, .slice none 0 0, .int .i64 0, .slice none 0 0, .slice none 0 0]) := ⟨_, rfl⟩
  have HFS : Hid (FA.size = 18) := by rw [Hid, HFA.out]; rfl
  have HF1 : Hid (∀ u ∈ FA.toList, u.oneCell' = true) := by rw [Hid, HFA.out]; simp [Value.oneCell']
  have kr6 : Blk w4 (w.heap.size + 1) 42 FA := by rw [HFA.out]; exact kr5
  clear kr5
  go_wp2_with (first
    | (refine wpList_load_blk rfl 42 (.tmp 4) rfl _ rfl 42 FA _ kr6 Try.underlying42 rfl (by rw [HFS.out]; exact Try.infoMsg) ?_)
    | (refine wpList_store_row rfl 42 (.tmp 4) (.tmp 103) rfl _ rfl 42 FA (.agg FA) rfl kr6 (by rw [show (Value.agg FA).cells = FA from rfl, HFS.out]; exact Try.infoMsg) rfl HF1.out ?_))
  intro w7 kr7' hg7
  have kr7 : Blk w7 (w.heap.size + 1) 42 FA := kr7'
  have hb7 : Below w.heap.size w w7 := hb5.grown hg7 hb5.size (fun g e => by injection e with e; omega)
  clear hg7 kr6 hb5 kr7'
  go_wp2_with fail
  exact bodyPost_ret (results_cell_row2 Try.results66 _ _ _ _ _ _ _ rfl kr7 Try.underlying42 rfl (by rw [HFS.out]; exact Try.infoMsg)) rfl ⟨ret_pair2 HFA.out (by rw [HR2.out] <;> (rfl)), hb7⟩
set_option maxRecDepth 100000 in
set_option maxHeartbeats 2000000 in
theorem only_3 {A1 A2 A3 A4 A5 A6 A7 : Option Addr} {n1 c1 n2 c2 n3 c3 n4 c4 n5 c5 n6 c6 n7 c7 : Nat} (n f t d ba bn ha hr ca cr cd : Int) (l : List TxD) (hbs hps cbs cps ss ds : List Int) (w : World)
    (HS0 : Hid (MsS w ⟨3, f, t, d, ⟨ba, bn, l⟩, ⟨ha, hr, hbs, hps⟩, ⟨⟨ca, cr, cbs, cps⟩, cd, ss⟩, ds⟩ ⟨⟨A1, n1, c1⟩, ⟨A2, n2, c2⟩, ⟨A3, n3, c3⟩, ⟨A4, n4, c4⟩, ⟨A5, n5, c5⟩, ⟨A6, n6, c6⟩, ⟨A7, n7, c7⟩⟩)) (HTZ : Hid (TxZ l))
    (hz1 : n1 ≤ 9223372036854775807) (hz2 : n2 ≤ 9223372036854775807) (hz3 : n3 ≤ 9223372036854775807) (hz4 : n4 ≤ 9223372036854775807) (hz5 : n5 ≤ 9223372036854775807) (hz6 : n6 ≤ 9223372036854775807) (hz7 : n7 ≤ 9223372036854775807) {r : Bool} (HR2 : Hid (r = (digO d && (mayB ba bn l && decide (ba ≤ n))))) {C : Array Value} (HC : Hid (C = #[.int .i64 3, .int .i64 f, .int .i64 t, .int .i64 d, .int .i64 ba, .int .i64 bn, .slice A1 n1 c1, .int .i64 ha, .int .i64 hr, .slice A2 n2 c2, .slice A3 n3 c3, .int .i64 ca, .int .i64 cr, .slice A4 n4 c4, .slice A5 n5 c5, .int .i64 cd, .slice A6 n6 c6, .slice A7 n7 c7])) :
    Calls Try.prog 66 #[.agg C, .int .i64 n] w fun e w' => e = .returned (.tuple #[.agg #[.int .i64 3, .int .i64 f, .int .i64 t, .int .i64 d, .int .i64 ba, .int .i64 bn, .slice A1 n1 c1, .int .i64 0, .int .i64 0, .slice none 0 0, .slice none 0 0, .int .i64 0, .int .i64 0, .slice none 0 0, .slice none 0 0, .int .i64 0, .slice none 0 0, .slice none 0 0], .bool r]) ∧ Below w.heap.size w w' := by
  go_enter Try.func66, Try.ntmps66
  go_upto_region 1 with fail
  have kr := Blk.new2 w (.cells C 42) 42 #[.int .i64 0, .int .i64 0, .int .i64 0, .int .i64 0, .int .i64 0, .int .i64 0, .slice none 0 0, .int .i64 0, .int .i64 0, .slice none 0 0, .slice none 0 0, .int .i64 0, .int .i64 0, .slice none 0 0, .slice none 0 0, .int .i64 0, .slice none 0 0, .slice none 0 0]
  have ka := (Blk.new w 42 C).alloc (.cells #[.int .i64 0, .int .i64 0, .int .i64 0, .int .i64 0, .int .i64 0, .int .i64 0, .slice none 0 0, .int .i64 0, .int .i64 0, .slice none 0 0, .slice none 0 0, .int .i64 0, .int .i64 0, .slice none 0 0, .slice none 0 0, .int .i64 0, .slice none 0 0, .slice none 0 0] 42)
  have hb : Below w.heap.size w ((w.alloc (.cells C 42)).alloc (.cells #[.int .i64 0, .int .i64 0, .int .i64 0, .int .i64 0, .int .i64 0, .int .i64 0, .slice none 0 0, .int .i64 0, .int .i64 0, .slice none 0 0, .slice none 0 0, .int .i64 0, .int .i64 0, .slice none 0 0, .slice none 0 0, .int .i64 0, .slice none 0 0, .slice none 0 0] 42)) := (below_alloc' w _).alloc (by simp) _
  generalize (w.alloc (.cells C 42)).alloc (.cells #[.int .i64 0, .int .i64 0, .int .i64 0, .int .i64 0, .int .i64 0, .int .i64 0, .slice none 0 0, .int .i64 0, .int .i64 0, .slice none 0 0, .slice none 0 0, .int .i64 0, .int .i64 0, .slice none 0 0, .slice none 0 0, .int .i64 0, .slice none 0 0, .slice none 0 0] 42) = w1 at ka kr hb ⊢
  have a0 : w1.cell? ⟨w.heap.size, 0, none⟩ = some (.int .i64 3) := ka.at_ (by rw [HC.out]; rfl)
  have a1 : w1.cell? ⟨w.heap.size, 1, none⟩ = some (.int .i64 f) := ka.at_ (by rw [HC.out]; rfl)
  have a2 : w1.cell? ⟨w.heap.size, 2, none⟩ = some (.int .i64 t) := ka.at_ (by rw [HC.out]; rfl)
  go_wp2_with (refine wpList_store_row rfl 42 (.tmp 4) (.tmp 12) rfl _ rfl 42 _ (.agg #[.int .i64 3, .int .i64 f, .int .i64 t, .int .i64 0, .int .i64 0, .int .i64 0, .slice none 0 0, .int .i64 0, .int .i64 0, .slice none 0 0, .slice none 0 0, .int .i64 0, .int .i64 0, .slice none 0 0, .slice none 0 0, .int .i64 0, .slice none 0 0, .slice none 0 0]) rfl kr Try.infoMsg rfl (by simp [Value.cells, Value.oneCell']) ?_)
  intro w2 kr2' hg2
  have kr2 : Blk w2 (w.heap.size + 1) 42 #[.int .i64 3, .int .i64 f, .int .i64 t, .int .i64 0, .int .i64 0, .int .i64 0, .slice none 0 0, .int .i64 0, .int .i64 0, .slice none 0 0, .slice none 0 0, .int .i64 0, .int .i64 0, .slice none 0 0, .slice none 0 0, .int .i64 0, .slice none 0 0, .slice none 0 0] := kr2'
  have hb2 : Below w.heap.size w w2 := hb.grown hg2 (by have := ka.lt; omega) (fun g e => by injection e with e; omega)
  have ka2 := ka.grown hg2 (by intro e; injection e with e; omega)
  clear ka kr hb a0 a1 a2 hg2 kr2'
  generalize (Value.agg #[.int .i64 3, .int .i64 f, .int .i64 t, .int .i64 0, .int .i64 0, .int .i64 0, .slice none 0 0, .int .i64 0, .int .i64 0, .slice none 0 0, .slice none 0 0, .int .i64 0, .int .i64 0, .slice none 0 0, .slice none 0 0, .int .i64 0, .slice none 0 0, .slice none 0 0]) = V2
  have a0 : w2.cell? ⟨w.heap.size, 0, none⟩ = some (.int .i64 3) := ka2.at_ (by rw [HC.out]; rfl)
  have a23 : w2.cell? ⟨w.heap.size, 3, none⟩ = some (.int .i64 d) := ka2.at_ (by rw [HC.out]; rfl)
  have a24 : w2.cell? ⟨w.heap.size, 4, none⟩ = some (.int .i64 ba) := ka2.at_ (by rw [HC.out]; rfl)
  have a25 : w2.cell? ⟨w.heap.size, 5, none⟩ = some (.int .i64 bn) := ka2.at_ (by rw [HC.out]; rfl)
  have a26 : w2.cell? ⟨w.heap.size, 6, none⟩ = some (.slice A1 n1 c1) := ka2.at_ (by rw [HC.out]; rfl)
  have r3 : w2.cell? ⟨w.heap.size + 1, 3, none⟩ = some (.int .i64 0) := kr2.at_ rfl
  have f3 := kr2.frozen 3
  have r4 : w2.cell? ⟨w.heap.size + 1, 4, none⟩ = some (.int .i64 0) := kr2.at_ rfl
  have f4 := kr2.frozen 4
  have r5 : w2.cell? ⟨w.heap.size + 1, 5, none⟩ = some (.int .i64 0) := kr2.at_ rfl
  have f5 := kr2.frozen 5
  have r6 : w2.cell? ⟨w.heap.size + 1, 6, none⟩ = some (.slice none 0 0) := kr2.at_ rfl
  have f6 := kr2.frozen 6
  have KK := hide (And.intro ((((kr2.set_ 3 (.int .i64 d)).set_ 4 (.int .i64 ba)).set_ 5 (.int .i64 bn)).set_ 6 (.slice A1 n1 c1)) (And.intro ((((ka2.far (p := ⟨w.heap.size + 1, 3, none⟩) (by simp) (.int .i64 d)).far (p := ⟨w.heap.size + 1, 4, none⟩) (by simp) (.int .i64 ba)).far (p := ⟨w.heap.size + 1, 5, none⟩) (by simp) (.int .i64 bn)).far (p := ⟨w.heap.size + 1, 6, none⟩) (by simp) (.slice A1 n1 c1)) ((((hb2.setCell (p := ⟨w.heap.size + 1, 3, none⟩) (by simp) (.int .i64 d)).setCell (p := ⟨w.heap.size + 1, 4, none⟩) (by simp) (.int .i64 ba)).setCell (p := ⟨w.heap.size + 1, 5, none⟩) (by simp) (.int .i64 bn)).setCell (p := ⟨w.heap.size + 1, 6, none⟩) (by simp) (.slice A1 n1 c1))))
  clear kr2 ka2 hb2
  go_upto_region 5 with fail
  go_region
  go_upto_region 6 with fail
  generalize (((w2.setCell ⟨w.heap.size + 1, 3, none⟩ (.int .i64 d)).setCell ⟨w.heap.size + 1, 4, none⟩ (.int .i64 ba)).setCell ⟨w.heap.size + 1, 5, none⟩ (.int .i64 bn)).setCell ⟨w.heap.size + 1, 6, none⟩ (.slice A1 n1 c1) = w3 at KK ⊢
  obtain ⟨kr3, ka3, hb3⟩ := KK.out
  clear KK a0 a23 r3 f3 a24 r4 f4 a25 r5 f5 a26 r6 f6
  have hb3 := hb3.drew
  have kr3 := kr3.drew
  have ka3 := ka3.drew
  generalize w3.drew = w4 at kr3 ka3 hb3 ⊢
  have HS4 := hide (HS0.out.below hb3)
  have b3 : w4.cell? ⟨w.heap.size, 3, none⟩ = some (.int .i64 d) := ka3.at_ (by rw [HC.out]; rfl)
  have b4 : w4.cell? ⟨w.heap.size, 4, none⟩ = some (.int .i64 ba) := ka3.at_ (by rw [HC.out]; rfl)
  have b5 : w4.cell? ⟨w.heap.size, 5, none⟩ = some (.int .i64 bn) := ka3.at_ (by rw [HC.out]; rfl)
  have b6 : w4.cell? ⟨w.heap.size, 6, none⟩ = some (.slice A1 n1 c1) := ka3.at_ (by rw [HC.out]; rfl)
  obtain ⟨pd, HD⟩ : ∃ p, Hid (digO d = p) := ⟨_, rfl⟩
  rw [HD.out] at HR2
  obtain ⟨pb, HPB⟩ : ∃ p, Hid (mayB ba bn l = p) := ⟨_, rfl⟩
  rw [HPB.out] at HR2
  go_wp2_with fail
  refine (com_Digest d _).mono ?_
  rintro e w' ⟨rfl, rfl⟩
  rw [HD.out]
  cases pd with
  | false =>
    have kr5 := kr3
    have hb5 := hb3
    obtain ⟨FA, HFA⟩ : ∃ FA : Array Value, Hid (FA = #[.int .i64 3, .int .i64 f, .int .i64 t, .int .i64 d, .int .i64 ba, .int .i64 bn, .slice A1 n1 c1, .int .i64 0, .int .i64 0, .slice none 0 0, .slice none 0 0, .int .i64 0, .int .i64 0, .slice none 0 0, .slice none 0 0, .int .i64 0, .slice none 0 0, .slice none 0 0]) := ⟨_, rfl⟩
    have HFS : Hid (FA.size = 18) := by rw [Hid, HFA.out]; rfl
    have HF1 : Hid (∀ u ∈ FA.toList, u.oneCell' = true) := by rw [Hid, HFA.out]; simp [Value.oneCell']
    have kr6 : Blk w4 (w.heap.size + 1) 42 FA := by rw [HFA.out]; exact kr5
    clear kr5
    go_wp2_with (first
      | (refine wpList_load_blk rfl 42 (.tmp 4) rfl _ rfl 42 FA _ kr6 Try.underlying42 rfl (by rw [HFS.out]; exact Try.infoMsg) ?_)
      | (refine wpList_store_row rfl 42 (.tmp 4) (.tmp 103) rfl _ rfl 42 FA (.agg FA) rfl kr6 (by rw [show (Value.agg FA).cells = FA from rfl, HFS.out]; exact Try.infoMsg) rfl HF1.out ?_))
    intro w7 kr7' hg7
    have kr7 : Blk w7 (w.heap.size + 1) 42 FA := kr7'
    have hb7 : Below w.heap.size w w7 := hb5.grown hg7 hb5.size (fun g e => by injection e with e; omega)
    clear hg7 kr6 hb5 kr7'
    go_wp2_with fail
    exact bodyPost_ret (results_cell_row2 Try.results66 _ _ _ _ _ _ _ rfl kr7 Try.underlying42 rfl (by rw [HFS.out]; exact Try.infoMsg)) rfl ⟨ret_pair2 HFA.out (by rw [HR2.out] <;> (simp)), hb7⟩
  | true =>
    go_wp2_with fail
    refine (batch_May ba bn _ HS4.out.tx hz1 HTZ.out HPB).mono ?_
    rintro e w5 ⟨rfl, hb4'⟩
    have b4 : w5.cell? ⟨w.heap.size, 4, none⟩ = some (.int .i64 ba) := (ka3.later hb4').at_ (by rw [HC.out]; rfl)
    have kr4 := kr3.later hb4'
    have hb4 := below_then hb3 hb4'
    cases pb with
    | false =>
      have kr5 := kr4
      have hb5 := hb4
      obtain ⟨FA, HFA⟩ : ∃ FA : Array Value, Hid (FA = #[.int .i64 3, .int .i64 f, .int .i64 t, .int .i64 d, .int .i64 ba, .int .i64 bn, .slice A1 n1 c1, .int .i64 0, .int .i64 0, .slice none 0 0, .slice none 0 0, .int .i64 0, .int .i64 0, .slice none 0 0, .slice none 0 0, .int .i64 0, .slice none 0 0, .slice none 0 0]) := ⟨_, rfl⟩
      have HFS : Hid (FA.size = 18) := by rw [Hid, HFA.out]; rfl
      have HF1 : Hid (∀ u ∈ FA.toList, u.oneCell' = true) := by rw [Hid, HFA.out]; simp [Value.oneCell']
      have kr6 : Blk w5 (w.heap.size + 1) 42 FA := by rw [HFA.out]; exact kr5
      clear kr5
      go_wp2_with (first
        | (refine wpList_load_blk rfl 42 (.tmp 4) rfl _ rfl 42 FA _ kr6 Try.underlying42 rfl (by rw [HFS.out]; exact Try.infoMsg) ?_)
        | (refine wpList_store_row rfl 42 (.tmp 4) (.tmp 103) rfl _ rfl 42 FA (.agg FA) rfl kr6 (by rw [show (Value.agg FA).cells = FA from rfl, HFS.out]; exact Try.infoMsg) rfl HF1.out ?_))
      intro w7 kr7' hg7
      have kr7 : Blk w7 (w.heap.size + 1) 42 FA := kr7'
      have hb7 : Below w.heap.size w w7 := hb5.grown hg7 hb5.size (fun g e => by injection e with e; omega)
      clear hg7 kr6 hb5 kr7'
      go_wp2_with fail
      exact bodyPost_ret (results_cell_row2 Try.results66 _ _ _ _ _ _ _ rfl kr7 Try.underlying42 rfl (by rw [HFS.out]; exact Try.infoMsg)) rfl ⟨ret_pair2 HFA.out (by rw [HR2.out] <;> (simp)), hb7⟩
    | true =>
      have kr5 := kr4
      have hb5 := hb4
      obtain ⟨FA, HFA⟩ : ∃ FA : Array Value, Hid (FA = #[.int .i64 3, .int .i64 f, .int .i64 t, .int .i64 d, .int .i64 ba, .int .i64 bn, .slice A1 n1 c1, .int .i64 0, .int .i64 0, .slice none 0 0, .slice none 0 0, .int .i64 0, .int .i64 0, .slice none 0 0, .slice none 0 0, .int .i64 0, .slice none 0 0, .slice none 0 0]) := ⟨_, rfl⟩
      have HFS : Hid (FA.size = 18) := by rw [Hid, HFA.out]; rfl
      have HF1 : Hid (∀ u ∈ FA.toList, u.oneCell' = true) := by rw [Hid, HFA.out]; simp [Value.oneCell']
      have kr6 : Blk w5 (w.heap.size + 1) 42 FA := by rw [HFA.out]; exact kr5
      clear kr5
      go_wp2_with (first
        | (refine wpList_load_blk rfl 42 (.tmp 4) rfl _ rfl 42 FA _ kr6 Try.underlying42 rfl (by rw [HFS.out]; exact Try.infoMsg) ?_)
        | (refine wpList_store_row rfl 42 (.tmp 4) (.tmp 103) rfl _ rfl 42 FA (.agg FA) rfl kr6 (by rw [show (Value.agg FA).cells = FA from rfl, HFS.out]; exact Try.infoMsg) rfl HF1.out ?_))
      intro w7 kr7' hg7
      have kr7 : Blk w7 (w.heap.size + 1) 42 FA := kr7'
      have hb7 : Below w.heap.size w w7 := hb5.grown hg7 hb5.size (fun g e => by injection e with e; omega)
      clear hg7 kr6 hb5 kr7'
      go_wp2_with fail
      exact bodyPost_ret (results_cell_row2 Try.results66 _ _ _ _ _ _ _ rfl kr7 Try.underlying42 rfl (by rw [HFS.out]; exact Try.infoMsg)) rfl ⟨ret_pair2 HFA.out (by rw [HR2.out] <;> (simp)), hb7⟩
set_option maxRecDepth 100000 in
set_option maxHeartbeats 2000000 in
theorem only_4 {A1 A2 A3 A4 A5 A6 A7 : Option Addr} {n1 c1 n2 c2 n3 c3 n4 c4 n5 c5 n6 c6 n7 c7 : Nat} (n f t d ba bn ha hr ca cr cd : Int) (l : List TxD) (hbs hps cbs cps ss ds : List Int) (w : World)
    (HS0 : Hid (MsS w ⟨4, f, t, d, ⟨ba, bn, l⟩, ⟨ha, hr, hbs, hps⟩, ⟨⟨ca, cr, cbs, cps⟩, cd, ss⟩, ds⟩ ⟨⟨A1, n1, c1⟩, ⟨A2, n2, c2⟩, ⟨A3, n3, c3⟩, ⟨A4, n4, c4⟩, ⟨A5, n5, c5⟩, ⟨A6, n6, c6⟩, ⟨A7, n7, c7⟩⟩)) (HTZ : Hid (TxZ l))
    (hz1 : n1 ≤ 9223372036854775807) (hz2 : n2 ≤ 9223372036854775807) (hz3 : n3 ≤ 9223372036854775807) (hz4 : n4 ≤ 9223372036854775807) (hz5 : n5 ≤ 9223372036854775807) (hz6 : n6 ≤ 9223372036854775807) (hz7 : n7 ≤ 9223372036854775807) {r : Bool} (HR2 : Hid (r = (digO d && (mayH n ⟨ha, hr, hbs, hps⟩ && (ha == f))))) {C : Array Value} (HC : Hid (C = #[.int .i64 4, .int .i64 f, .int .i64 t, .int .i64 d, .int .i64 ba, .int .i64 bn, .slice A1 n1 c1, .int .i64 ha, .int .i64 hr, .slice A2 n2 c2, .slice A3 n3 c3, .int .i64 ca, .int .i64 cr, .slice A4 n4 c4, .slice A5 n5 c5, .int .i64 cd, .slice A6 n6 c6, .slice A7 n7 c7])) :
    Calls Try.prog 66 #[.agg C, .int .i64 n] w fun e w' => e = .returned (.tuple #[.agg #[.int .i64 4, .int .i64 f, .int .i64 t, .int .i64 d, .int .i64 0, .int .i64 0, .slice none 0 0, .int .i64 ha, .int .i64 hr, .slice A2 n2 c2, .slice A3 n3 c3, .int .i64 0, .int .i64 0, .slice none 0 0, .slice none 0 0, .int .i64 0, .slice none 0 0, .slice none 0 0], .bool r]) ∧ Below w.heap.size w w' := by
  go_enter Try.func66, Try.ntmps66
  go_upto_region 1 with fail
  have kr := Blk.new2 w (.cells C 42) 42 #[.int .i64 0, .int .i64 0, .int .i64 0, .int .i64 0, .int .i64 0, .int .i64 0, .slice none 0 0, .int .i64 0, .int .i64 0, .slice none 0 0, .slice none 0 0, .int .i64 0, .int .i64 0, .slice none 0 0, .slice none 0 0, .int .i64 0, .slice none 0 0, .slice none 0 0]
  have ka := (Blk.new w 42 C).alloc (.cells #[.int .i64 0, .int .i64 0, .int .i64 0, .int .i64 0, .int .i64 0, .int .i64 0, .slice none 0 0, .int .i64 0, .int .i64 0, .slice none 0 0, .slice none 0 0, .int .i64 0, .int .i64 0, .slice none 0 0, .slice none 0 0, .int .i64 0, .slice none 0 0, .slice none 0 0] 42)
  have hb : Below w.heap.size w ((w.alloc (.cells C 42)).alloc (.cells #[.int .i64 0, .int .i64 0, .int .i64 0, .int .i64 0, .int .i64 0, .int .i64 0, .slice none 0 0, .int .i64 0, .int .i64 0, .slice none 0 0, .slice none 0 0, .int .i64 0, .int .i64 0, .slice none 0 0, .slice none 0 0, .int .i64 0, .slice none 0 0, .slice none 0 0] 42)) := (below_alloc' w _).alloc (by simp) _
  generalize (w.alloc (.cells C 42)).alloc (.cells #[.int .i64 0, .int .i64 0, .int .i64 0, .int .i64 0, .int .i64 0, .int .i64 0, .slice none 0 0, .int .i64 0, .int .i64 0, .slice none 0 0, .slice none 0 0, .int .i64 0, .int .i64 0, .slice none 0 0, .slice none 0 0, .int .i64 0, .slice none 0 0, .slice none 0 0] 42) = w1 at ka kr hb ⊢
  have a0 : w1.cell? ⟨w.heap.size, 0, none⟩ = some (.int .i64 4) := ka.at_ (by rw [HC.out]; rfl)
  have a1 : w1.cell? ⟨w.heap.size, 1, none⟩ = some (.int .i64 f) := ka.at_ (by rw [HC.out]; rfl)
  have a2 : w1.cell? ⟨w.heap.size, 2, none⟩ = some (.int .i64 t) := ka.at_ (by rw [HC.out]; rfl)
  go_wp2_with (refine wpList_store_row rfl 42 (.tmp 4) (.tmp 12) rfl _ rfl 42 _ (.agg #[.int .i64 4, .int .i64 f, .int .i64 t, .int .i64 0, .int .i64 0, .int .i64 0, .slice none 0 0, .int .i64 0, .int .i64 0, .slice none 0 0, .slice none 0 0, .int .i64 0, .int .i64 0, .slice none 0 0, .slice none 0 0, .int .i64 0, .slice none 0 0, .slice none 0 0]) rfl kr Try.infoMsg rfl (by simp [Value.cells, Value.oneCell']) ?_)
  intro w2 kr2' hg2
  have kr2 : Blk w2 (w.heap.size + 1) 42 #[.int .i64 4, .int .i64 f, .int .i64 t, .int .i64 0, .int .i64 0, .int .i64 0, .slice none 0 0, .int .i64 0, .int .i64 0, .slice none 0 0, .slice none 0 0, .int .i64 0, .int .i64 0, .slice none 0 0, .slice none 0 0, .int .i64 0, .slice none 0 0, .slice none 0 0] := kr2'
  have hb2 : Below w.heap.size w w2 := hb.grown hg2 (by have := ka.lt; omega) (fun g e => by injection e with e; omega)
  have ka2 := ka.grown hg2 (by intro e; injection e with e; omega)
  clear ka kr hb a0 a1 a2 hg2 kr2'
  generalize (Value.agg #[.int .i64 4, .int .i64 f, .int .i64 t, .int .i64 0, .int .i64 0, .int .i64 0, .slice none 0 0, .int .i64 0, .int .i64 0, .slice none 0 0, .slice none 0 0, .int .i64 0, .int .i64 0, .slice none 0 0, .slice none 0 0, .int .i64 0, .slice none 0 0, .slice none 0 0]) = V2
  have a0 : w2.cell? ⟨w.heap.size, 0, none⟩ = some (.int .i64 4) := ka2.at_ (by rw [HC.out]; rfl)
  have a23 : w2.cell? ⟨w.heap.size, 3, none⟩ = some (.int .i64 d) := ka2.at_ (by rw [HC.out]; rfl)
  have a27 : w2.cell? ⟨w.heap.size, 7, none⟩ = some (.int .i64 ha) := ka2.at_ (by rw [HC.out]; rfl)
  have a28 : w2.cell? ⟨w.heap.size, 8, none⟩ = some (.int .i64 hr) := ka2.at_ (by rw [HC.out]; rfl)
  have a29 : w2.cell? ⟨w.heap.size, 9, none⟩ = some (.slice A2 n2 c2) := ka2.at_ (by rw [HC.out]; rfl)
  have a30 : w2.cell? ⟨w.heap.size, 10, none⟩ = some (.slice A3 n3 c3) := ka2.at_ (by rw [HC.out]; rfl)
  have r3 : w2.cell? ⟨w.heap.size + 1, 3, none⟩ = some (.int .i64 0) := kr2.at_ rfl
  have f3 := kr2.frozen 3
  have r7 : w2.cell? ⟨w.heap.size + 1, 7, none⟩ = some (.int .i64 0) := kr2.at_ rfl
  have f7 := kr2.frozen 7
  have r8 : w2.cell? ⟨w.heap.size + 1, 8, none⟩ = some (.int .i64 0) := kr2.at_ rfl
  have f8 := kr2.frozen 8
  have r9 : w2.cell? ⟨w.heap.size + 1, 9, none⟩ = some (.slice none 0 0) := kr2.at_ rfl
  have f9 := kr2.frozen 9
  have r10 : w2.cell? ⟨w.heap.size + 1, 10, none⟩ = some (.slice none 0 0) := kr2.at_ rfl
  have f10 := kr2.frozen 10
  have KK := hide (And.intro (((((kr2.set_ 3 (.int .i64 d)).set_ 7 (.int .i64 ha)).set_ 8 (.int .i64 hr)).set_ 9 (.slice A2 n2 c2)).set_ 10 (.slice A3 n3 c3)) (And.intro (((((ka2.far (p := ⟨w.heap.size + 1, 3, none⟩) (by simp) (.int .i64 d)).far (p := ⟨w.heap.size + 1, 7, none⟩) (by simp) (.int .i64 ha)).far (p := ⟨w.heap.size + 1, 8, none⟩) (by simp) (.int .i64 hr)).far (p := ⟨w.heap.size + 1, 9, none⟩) (by simp) (.slice A2 n2 c2)).far (p := ⟨w.heap.size + 1, 10, none⟩) (by simp) (.slice A3 n3 c3)) (((((hb2.setCell (p := ⟨w.heap.size + 1, 3, none⟩) (by simp) (.int .i64 d)).setCell (p := ⟨w.heap.size + 1, 7, none⟩) (by simp) (.int .i64 ha)).setCell (p := ⟨w.heap.size + 1, 8, none⟩) (by simp) (.int .i64 hr)).setCell (p := ⟨w.heap.size + 1, 9, none⟩) (by simp) (.slice A2 n2 c2)).setCell (p := ⟨w.heap.size + 1, 10, none⟩) (by simp) (.slice A3 n3 c3))))
  clear kr2 ka2 hb2
  go_upto_region 12 with fail
  go_region
  go_upto_region 13 with fail
  generalize ((((w2.setCell ⟨w.heap.size + 1, 3, none⟩ (.int .i64 d)).setCell ⟨w.heap.size + 1, 7, none⟩ (.int .i64 ha)).setCell ⟨w.heap.size + 1, 8, none⟩ (.int .i64 hr)).setCell ⟨w.heap.size + 1, 9, none⟩ (.slice A2 n2 c2)).setCell ⟨w.heap.size + 1, 10, none⟩ (.slice A3 n3 c3) = w3 at KK ⊢
  obtain ⟨kr3, ka3, hb3⟩ := KK.out
  clear KK a0 a23 r3 f3 a27 r7 f7 a28 r8 f8 a29 r9 f9 a30 r10 f10
  have hb3 := hb3.drew
  have kr3 := kr3.drew
  have ka3 := ka3.drew
  generalize w3.drew = w4 at kr3 ka3 hb3 ⊢
  have HS4 := hide (HS0.out.below hb3)
  have b1 : w4.cell? ⟨w.heap.size, 1, none⟩ = some (.int .i64 f) := ka3.at_ (by rw [HC.out]; rfl)
  have b3 : w4.cell? ⟨w.heap.size, 3, none⟩ = some (.int .i64 d) := ka3.at_ (by rw [HC.out]; rfl)
  have b7 : w4.cell? ⟨w.heap.size, 7, none⟩ = some (.int .i64 ha) := ka3.at_ (by rw [HC.out]; rfl)
  have b8 : w4.cell? ⟨w.heap.size, 8, none⟩ = some (.int .i64 hr) := ka3.at_ (by rw [HC.out]; rfl)
  have b9 : w4.cell? ⟨w.heap.size, 9, none⟩ = some (.slice A2 n2 c2) := ka3.at_ (by rw [HC.out]; rfl)
  have b10 : w4.cell? ⟨w.heap.size, 10, none⟩ = some (.slice A3 n3 c3) := ka3.at_ (by rw [HC.out]; rfl)
  obtain ⟨pd, HD⟩ : ∃ p, Hid (digO d = p) := ⟨_, rfl⟩
  rw [HD.out] at HR2
  obtain ⟨ph, HPH⟩ : ∃ p, Hid (mayH n ⟨ha, hr, hbs, hps⟩ = p) := ⟨_, rfl⟩
  rw [HPH.out] at HR2
  go_wp2_with fail
  refine (com_Digest d _).mono ?_
  rintro e w' ⟨rfl, rfl⟩
  rw [HD.out]
  cases pd with
  | false =>
    have kr5 := kr3
    have hb5 := hb3
    obtain ⟨FA, HFA⟩ : ∃ FA : Array Value, Hid (FA = #[.int .i64 4, .int .i64 f, .int .i64 t, .int .i64 d, .int .i64 0, .int .i64 0, .slice none 0 0, .int .i64 ha, .int .i64 hr, .slice A2 n2 c2, .slice A3 n3 c3, .int .i64 0, .int .i64 0, .slice none 0 0, .slice none 0 0, .int .i64 0, .slice none 0 0, .slice none 0 0]) := ⟨_, rfl⟩
    have HFS : Hid (FA.size = 18) := by rw [Hid, HFA.out]; rfl
    have HF1 : Hid (∀ u ∈ FA.toList, u.oneCell' = true) := by rw [Hid, HFA.out]; simp [Value.oneCell']
    have kr6 : Blk w4 (w.heap.size + 1) 42 FA := by rw [HFA.out]; exact kr5
    clear kr5
    go_wp2_with (first
      | (refine wpList_load_blk rfl 42 (.tmp 4) rfl _ rfl 42 FA _ kr6 Try.underlying42 rfl (by rw [HFS.out]; exact Try.infoMsg) ?_)
      | (refine wpList_store_row rfl 42 (.tmp 4) (.tmp 103) rfl _ rfl 42 FA (.agg FA) rfl kr6 (by rw [show (Value.agg FA).cells = FA from rfl, HFS.out]; exact Try.infoMsg) rfl HF1.out ?_))
    intro w7 kr7' hg7
    have kr7 : Blk w7 (w.heap.size + 1) 42 FA := kr7'
    have hb7 : Below w.heap.size w w7 := hb5.grown hg7 hb5.size (fun g e => by injection e with e; omega)
    clear hg7 kr6 hb5 kr7'
    go_wp2_with fail
    exact bodyPost_ret (results_cell_row2 Try.results66 _ _ _ _ _ _ _ rfl kr7 Try.underlying42 rfl (by rw [HFS.out]; exact Try.infoMsg)) rfl ⟨ret_pair2 HFA.out (by rw [HR2.out] <;> (simp)), hb7⟩
  | true =>
    go_wp2_with fail
    refine (header_May n ⟨ha, hr, hbs, hps⟩ _ HS4.out.hb HS4.out.hp hz2 hz3 HPH).mono ?_
    rintro e w5 ⟨rfl, hb4'⟩
    have b7 : w5.cell? ⟨w.heap.size, 7, none⟩ = some (.int .i64 ha) := (ka3.later hb4').at_ (by rw [HC.out]; rfl)
    have b1 : w5.cell? ⟨w.heap.size, 1, none⟩ = some (.int .i64 f) := (ka3.later hb4').at_ (by rw [HC.out]; rfl)
    have kr4 := kr3.later hb4'
    have hb4 := below_then hb3 hb4'
    cases ph with
    | false =>
      have kr5 := kr4
      have hb5 := hb4
      obtain ⟨FA, HFA⟩ : ∃ FA : Array Value, Hid (FA = #[.int .i64 4, .int .i64 f, .int .i64 t, .int .i64 d, .int .i64 0, .int .i64 0, .slice none 0 0, .int .i64 ha, .int .i64 hr, .slice A2 n2 c2, .slice A3 n3 c3, .int .i64 0, .int .i64 0, .slice none 0 0, .slice none 0 0, .int .i64 0, .slice none 0 0, .slice none 0 0]) := ⟨_, rfl⟩
      have HFS : Hid (FA.size = 18) := by rw [Hid, HFA.out]; rfl
      have HF1 : Hid (∀ u ∈ FA.toList, u.oneCell' = true) := by rw [Hid, HFA.out]; simp [Value.oneCell']
      have kr6 : Blk w5 (w.heap.size + 1) 42 FA := by rw [HFA.out]; exact kr5
      clear kr5
      go_wp2_with (first
        | (refine wpList_load_blk rfl 42 (.tmp 4) rfl _ rfl 42 FA _ kr6 Try.underlying42 rfl (by rw [HFS.out]; exact Try.infoMsg) ?_)
        | (refine wpList_store_row rfl 42 (.tmp 4) (.tmp 103) rfl _ rfl 42 FA (.agg FA) rfl kr6 (by rw [show (Value.agg FA).cells = FA from rfl, HFS.out]; exact Try.infoMsg) rfl HF1.out ?_))
      intro w7 kr7' hg7
      have kr7 : Blk w7 (w.heap.size + 1) 42 FA := kr7'
      have hb7 : Below w.heap.size w w7 := hb5.grown hg7 hb5.size (fun g e => by injection e with e; omega)
      clear hg7 kr6 hb5 kr7'
      go_wp2_with fail
      exact bodyPost_ret (results_cell_row2 Try.results66 _ _ _ _ _ _ _ rfl kr7 Try.underlying42 rfl (by rw [HFS.out]; exact Try.infoMsg)) rfl ⟨ret_pair2 HFA.out (by rw [HR2.out] <;> (simp)), hb7⟩
    | true =>
      have kr5 := kr4
      have hb5 := hb4
      obtain ⟨FA, HFA⟩ : ∃ FA : Array Value, Hid (FA = #[.int .i64 4, .int .i64 f, .int .i64 t, .int .i64 d, .int .i64 0, .int .i64 0, .slice none 0 0, .int .i64 ha, .int .i64 hr, .slice A2 n2 c2, .slice A3 n3 c3, .int .i64 0, .int .i64 0, .slice none 0 0, .slice none 0 0, .int .i64 0, .slice none 0 0, .slice none 0 0]) := ⟨_, rfl⟩
      have HFS : Hid (FA.size = 18) := by rw [Hid, HFA.out]; rfl
      have HF1 : Hid (∀ u ∈ FA.toList, u.oneCell' = true) := by rw [Hid, HFA.out]; simp [Value.oneCell']
      have kr6 : Blk w5 (w.heap.size + 1) 42 FA := by rw [HFA.out]; exact kr5
      clear kr5
      go_wp2_with (first
        | (refine wpList_load_blk rfl 42 (.tmp 4) rfl _ rfl 42 FA _ kr6 Try.underlying42 rfl (by rw [HFS.out]; exact Try.infoMsg) ?_)
        | (refine wpList_store_row rfl 42 (.tmp 4) (.tmp 103) rfl _ rfl 42 FA (.agg FA) rfl kr6 (by rw [show (Value.agg FA).cells = FA from rfl, HFS.out]; exact Try.infoMsg) rfl HF1.out ?_))
      intro w7 kr7' hg7
      have kr7 : Blk w7 (w.heap.size + 1) 42 FA := kr7'
      have hb7 : Below w.heap.size w w7 := hb5.grown hg7 hb5.size (fun g e => by injection e with e; omega)
      clear hg7 kr6 hb5 kr7'
      go_wp2_with fail
      exact bodyPost_ret (results_cell_row2 Try.results66 _ _ _ _ _ _ _ rfl kr7 Try.underlying42 rfl (by rw [HFS.out]; exact Try.infoMsg)) rfl ⟨ret_pair2 HFA.out (by rw [HR2.out] <;> (simp)), hb7⟩
end Go.Proofs.Ytebaojcfmkobjaa
