/-
  Contracts: a message whose digests are the books' (put), both books at once; its signers' slice.
-/
import Derived.Test.YtebaojcfmkobjaaRealE
import Derived.Test.YtebaojcfmkobjaaMsgK
set_option linter.unusedVariables false
set_option linter.unusedSimpArgs false
namespace Go.Proofs.Ytebaojcfmkobjaa
open Go.RowKit

def TwK (W0 : World) (G1 G2 : Nat → Prop) (w : World) (g r : Nat) (L : List (List UInt8)) (sg : Int × Int → Bool) (L2 : List (List UInt8)) (ps : List (Int × Int)) : Prop := Tw W0 G1 G2 w g r L sg L2 ps
def BkG (G1 G2 : Nat → Prop) (b : Nat) : Prop := G1 b ∨ G2 b
section
variable {W0 w w' w'' : World} {G1 G2 F F' : Nat → Prop} {g r : Nat} {L L2 : List (List UInt8)} {sg : Int × Int → Bool} {ps : List (Int × Int)} {x y : MsD} {u v : MsV}
theorem TwK.tw (h : TwK W0 G1 G2 w g r L sg L2 ps) : Tw W0 G1 G2 w g r L sg L2 ps := h
theorem TwK.below (h : TwK W0 G1 G2 w g r L sg L2 ps) (hb : Below w.heap.size w w') : TwK W0 G1 G2 w' g r L sg L2 ps := Tw.step h hb
theorem TwK.lt (h : TwK W0 G1 G2 w g r L sg L2 ps) : ∀ b, BkG G1 G2 b → b < w.heap.size := fun b hb => hb.elim (h.tw.bk.lt b) (h.tw.rf.lt b)
theorem Chg.below (h : Chg F w w') (hb : Below w'.heap.size w' w'') : Chg F w w'' := h.then_below hb
def slsV (u : MsV) : List SlV := [u.tx, u.hb, u.hp, u.cb, u.cp, u.cs, u.ds]
/-- A message's slices, away from what may change. -/
structure MsIn (F : Nat → Prop) (w : World) (y : MsD) (u : MsV) : Prop where
  s : MsS w y u
  z : MsZ y u
  k : MsK y u
  ap : ∀ q ∈ slsV u, 0 < q.n → ∀ b off, q.A = some ⟨b, off, none⟩ → ¬ F b
theorem MsIn.below (h : MsIn F w y u) (hb : Below w.heap.size w w') : MsIn F w' y u := ⟨h.s.below hb, h.z, h.k, h.ap⟩
theorem MsIn.chg (h : MsIn F w y u) (hc : Chg F w w') : MsIn F w' y u := by
  have ha := h.ap
  simp only [slsV, List.forall_mem_cons] at ha
  obtain ⟨a1, a2, a3, a4, a5, a6, a7, _⟩ := ha
  exact ⟨⟨h.s.tx.chg hc a1, h.s.hb.chg hc a2, h.s.hp.chg hc a3, h.s.cb.chg hc a4, h.s.cp.chg hc a5, h.s.cs.chg hc a6, h.s.ds.chg hc a7⟩, h.z, h.k, h.ap⟩
theorem Sl.in_ {size n : Nat} {A : Option Addr} {cs : List Value} (h : Sl w size A n cs) (hn : 0 < n) {b off : Nat} (e : A = some ⟨b, off, none⟩) : b < w.heap.size := by
  obtain ⟨b', off', e', hb, _⟩ := h.2 hn
  rw [e] at e'
  injection e' with e'
  injection e' with e1 _
  omega
theorem MsIn.to (h : MsIn F w y u) (hF : ∀ b, F' b → F b ∨ w.heap.size ≤ b) : MsIn F' w y u := by
  refine ⟨h.s, h.z, h.k, fun q hq hn b off e hb => ?_⟩
  rcases hF b hb with hb | hb
  · exact h.ap q hq hn b off e hb
  · have hlt : b < w.heap.size := by
      simp only [slsV, List.mem_cons, List.not_mem_nil, or_false] at hq
      rcases hq with rfl | rfl | rfl | rfl | rfl | rfl | rfl
      · exact h.s.tx.in_ hn e
      · exact h.s.hb.in_ hn e
      · exact h.s.hp.in_ hn e
      · exact h.s.cb.in_ hn e
      · exact h.s.cp.in_ hn e
      · exact h.s.cs.in_ hn e
      · exact h.s.ds.in_ hn e
    omega
theorem MsIn.of_own {B : Nat} (h : MsO B w y u) (hz : MsZ y u) (hk : MsK y u) (hF : ∀ b, F b → b < B) : MsIn F w y u := by
  refine ⟨h.s, hz, hk, fun q hq hn b off e hb => ?_⟩
  have hlt := hF b hb
  have : B ≤ b := by
    simp only [slsV, List.mem_cons, List.not_mem_nil, or_false] at hq
    rcases hq with rfl | rfl | rfl | rfl | rfl | rfl | rfl
    · exact (h.tx.lt b (by unfold SlV.v; rw [e]; rfl)).1
    · exact (h.hb.lt b (by unfold SlV.v; rw [e]; rfl)).1
    · exact (h.hp.lt b (by unfold SlV.v; rw [e]; rfl)).1
    · exact (h.cb.lt b (by unfold SlV.v; rw [e]; rfl)).1
    · exact (h.cp.lt b (by unfold SlV.v; rw [e]; rfl)).1
    · exact (h.cs.lt b (by unfold SlV.v; rw [e]; rfl)).1
    · exact (h.ds.lt b (by unfold SlV.v; rw [e]; rfl)).1
  omega
theorem MsIn.d (h : MsIn F w y u) (d : Int) : MsIn F w { y with d := d } u := ⟨⟨h.s.tx, h.s.hb, h.s.hp, h.s.cb, h.s.cp, h.s.cs, h.s.ds⟩, ⟨h.z.txz, h.z.tx, h.z.hb, h.z.hp, h.z.cb, h.z.cp, h.z.cs, h.z.ds⟩, ⟨h.k.tx, h.k.hb, h.k.hp, h.k.cb, h.k.cp, h.k.cs, h.k.ds⟩, h.ap⟩
theorem MsIn.cd (h : MsIn F w y u) (d : Int) : MsIn F w { y with c := { y.c with d := d } } u := ⟨⟨h.s.tx, h.s.hb, h.s.hp, h.s.cb, h.s.cp, h.s.cs, h.s.ds⟩, ⟨h.z.txz, h.z.tx, h.z.hb, h.z.hp, h.z.cb, h.z.cp, h.z.cs, h.z.ds⟩, ⟨h.k.tx, h.k.hb, h.k.hp, h.k.cb, h.k.cp, h.k.cs, h.k.ds⟩, h.ap⟩
theorem Sl.chg1 {size n gy : Nat} {cs : List Value} (h : Sl w size (some ⟨gy, 0, none⟩) n cs) (hc : Chg F w w') (hn : ¬ F gy) : Sl w' size (some ⟨gy, 0, none⟩) n cs :=
  h.chg hc (fun _ b off e => by injection e with e; injection e with e1 _; subst e1; exact hn)
theorem putB_pos (ls : List ByteArray) : 0 < (putB ls).length := by have := enc_pos ls.length; unfold putB; rw [List.length_append]; omega
theorem grown_chg {g8 : Nat} (h : w.grownBy w' (some g8)) : Chg (fun b => b = g8) w w' := Chg.of_grown h (fun q e => by injection e with e; exact .inl e.symm)
theorem TwK.store {g8 : Nat} (h : TwK W0 G1 G2 w g r L sg L2 ps) (hg : w.grownBy w' (some g8)) (hn : ¬ BkG G1 G2 g8) (h3 : W0.heap.size ≤ g8) : TwK W0 G1 G2 w' g r L sg L2 ps :=
  Tw.chg h (grown_chg hg) (fun b e hb => hn (by subst e; exact .inl hb)) (fun b e hb => hn (by subst e; exact .inr hb)) (fun b e => by subst e; exact h3)
end
def FK (K : Nat → Prop) (G1 G2 : Nat → Prop) (b : Nat) : Prop := BkG G1 G2 b ∨ K b
theorem FK.map {K G1 G2 G1' G2' : Nat → Prop} {b N : Nat} (h : FK K G1' G2' b) (h1 : ∀ b, G1' b → G1 b ∨ N ≤ b) (h2 : ∀ b, G2' b → G2 b ∨ N ≤ b) : FK K G1 G2 b ∨ N ≤ b := by
  rcases h with (h | h) | h
  · exact (h1 b h).imp (fun h => Or.inl (Or.inl h)) id
  · exact (h2 b h).imp (fun h => Or.inl (Or.inr h)) id
  · exact Or.inl (Or.inr h)
def K2 (p q b : Nat) : Prop := b = p ∨ b = q
def K3 (p q N b : Nat) : Prop := K2 p q b ∨ b < N
theorem K2.l {p q : Nat} : K2 p q p := .inl rfl
theorem K2.r {p q : Nat} : K2 p q q := .inr rfl
theorem K2.le {p q B : Nat} (h1 : B ≤ p) (h2 : B ≤ q) (b : Nat) (h : K2 p q b) : B ≤ b := by rcases h with h | h <;> omega
theorem K2.lt {p q B : Nat} (h1 : p < B) (h2 : q < B) (b : Nat) (h : K2 p q b) : b < B := by rcases h with h | h <;> omega
theorem MsIn.step {w w' : World} {F F' : Nat → Prop} {y : MsD} {u : MsV} (h : MsIn F w y u) (hc : Chg F w w') (hF : ∀ b, F' b → F b ∨ w.heap.size ≤ b) : MsIn F' w' y u := ⟨(h.chg hc).s, h.z, h.k, (h.to hF).ap⟩
theorem MsIn.store {w w' : World} {K G1 G2 : Nat → Prop} {q : Nat} {y : MsD} {u : MsV} (h : MsIn (FK K G1 G2) w y u) (hg : w.grownBy w' (some q)) (hk : K q) : MsIn (FK K G1 G2) w' y u := h.chg ((grown_chg hg).mono (fun b e => .inl (.inr (by subst e; exact hk))))
def rawM (x : MsD) : Option (List UInt8) :=
  if x.k = 1 ∨ x.k = 3 then (if mayB x.b.a x.b.n x.b.l then some (batchB x.b.a x.b.n x.b.l) else none)
  else if x.k = 4 then (if formH 16 x.h then some (headerB x.h) else none)
  else if x.k = 6 then (if formH 16 x.c.h then some (headerB x.c.h) else none) else none
def putM (L : List (List UInt8)) (x : MsD) : MsD := match rawM x with
  | none => x
  | some bs => if x.k = 6 then { x with c := { x.c with d := digN L bs } } else { x with d := digN L bs }
def putLs (L : List (List UInt8)) (x : MsD) : List (List UInt8) := match rawM x with
  | none => L
  | some bs => addL L bs
theorem raw_13 {x : MsD} (h : x.k = 1 ∨ x.k = 3) : rawM x = if mayB x.b.a x.b.n x.b.l then some (batchB x.b.a x.b.n x.b.l) else none := by unfold rawM; rw [if_pos h]
theorem raw_4 {x : MsD} (h : x.k = 4) : rawM x = if formH 16 x.h then some (headerB x.h) else none := by unfold rawM; rw [if_neg (by omega), if_pos h]
theorem raw_6 {x : MsD} (h : x.k = 6) : rawM x = if formH 16 x.c.h then some (headerB x.c.h) else none := by unfold rawM; rw [if_neg (by omega), if_neg (by omega), if_pos h]
theorem raw_no {x : MsD} (h : ¬ (x.k = 1 ∨ x.k = 3 ∨ x.k = 4 ∨ x.k = 6)) : rawM x = none := by unfold rawM; rw [if_neg (by omega), if_neg (by omega), if_neg (by omega)]
theorem put_none {L : List (List UInt8)} {x : MsD} (h : rawM x = none) : putM L x = x ∧ putLs L x = L := by unfold putM putLs; rw [h]; exact ⟨rfl, rfl⟩
theorem put_6 {L : List (List UInt8)} {x : MsD} {bs : List UInt8} (h : rawM x = some bs) (hk : x.k = 6) : putM L x = { x with c := { x.c with d := digN L bs } } ∧ putLs L x = addL L bs := by unfold putM putLs; rw [h]; exact ⟨if_pos hk, rfl⟩
theorem put_d {L : List (List UInt8)} {x : MsD} {bs : List UInt8} (h : rawM x = some bs) (hk : x.k ≠ 6) : putM L x = { x with d := digN L bs } ∧ putLs L x = addL L bs := by unfold putM putLs; rw [h]; exact ⟨if_neg hk, rfl⟩
theorem set_d {x : MsD} {u : MsV} {d : Int} : (msC x u).setIfInBounds 3 (.int .i64 d) = msC { x with d := d } u := by kernel_rfl
theorem set_cd {x : MsD} {u : MsV} {d : Int} : (msC x u).setIfInBounds 15 (.int .i64 d) = msC { x with c := { x.c with d := d } } u := by kernel_rfl
theorem msC_sz {x : MsD} {u : MsV} : (msC x u).size = 18 := rfl
theorem MsO.chg {B : Nat} {F : Nat → Prop} {w w' : World} {x : MsD} {u : MsV} (h : MsO B w x u) (hc : Chg F w w') (hF : ∀ b, F b → b < B) : MsO B w' x u := by
  have hk : ∀ {e : TypeId} {n size : Nat} {v : Value} {xs : List Value}, w.ownsRow B e size v n xs → w'.ownsRow B e size v n xs := fun ho => own_at ho (fun q hq => hc.at_ (own_in ho hq) (fun hf => by
    have h1 := hF q hf
    have h2 := (ho.lt q hq).1
    omega))
  exact ⟨hk h.tx, hk h.hb, hk h.hp, hk h.cb, hk h.cp, hk h.cs, hk h.ds⟩
theorem results_cell_tmp {P : Program} {fn : Func} {p t : Tmp} {ty : TypeId} (h : fn.results = #[.cell p ty, .tmp t]) (tmps : Array Value) (w : World) (g : Nat) (T : TypeId) (cs : Array Value) (fr : Nat × Nat) (d : TypeDesc)
    (hp : tmps.getD p undef = .pointer (some ⟨g, 0, none⟩)) (hg : w.heap[g]? = some (.cells cs T fr))
    (hu : P.underlying ty = some d) (hd : (match d with | .struct _ | .array _ _ => true | _ => false) = true) (hi : (P.info? ty).map (·.size) = some cs.size) :
    (results fn tmps).run P w = .ok (.tuple #[.agg cs, tmps.getD t undef]) w := by
  have hp' : tmps[p]?.getD undef = .pointer (some ⟨g, 0, none⟩) := by simpa using hp
  simp [results, h, hp', asAddr, run_loadVar_row w g T ty cs fr d hg hu hd hi]
theorem ret_ct {P : Program} {a : Act} {n : Nat} {M : List (Nat × Value)} {w : World} {fn : Func} {R : Ending → World → Prop} {p t g : Nat} {ty T : TypeId} {cs : Array Value} {v : Value} {d : TypeDesc} (hres : fn.results = #[.cell p ty, .tmp t]) (hM : Frm a n M)
    (hp : lk M p = some (.pointer (some ⟨g, 0, none⟩))) (hl : lk M t = some v) (hb : Blk w g T cs) (hu : P.underlying ty = some d) (hd : (match d with | .struct _ | .array _ _ => true | _ => false) = true) (hi : (P.info? ty).map (·.size) = some cs.size)
    (hR : R (.returned (.tuple #[.agg cs, v])) w) : bodyPost P fn R .ret a w :=
  bodyPost_ret (results_cell_tmp hres _ _ g T cs (0, 0) d (show a.tmps.getD p undef = _ from hM.ev hp) hb hu hd hi) hM.2.1 (by rw [show a.tmps.getD t undef = v from hM.ev hl]; exact hR)
def PutE (W0 : World) (G1 G2 : Nat → Prop) (w : World) (g r : Nat) (L : List (List UInt8)) (sg : Int × Int → Bool) (ps : List (Int × Int)) (x : MsD) (e : Ending) (w' : World) : Prop :=
  ∃ D u G1' G2', e = .returned (.tuple #[.agg D, .bool true]) ∧ Hid (D = msC (putM L x) u) ∧ Hid (MsIn (fun b => BkG G1' G2' b ∨ b < w.heap.size) w' (putM L x) u) ∧ Hid (TwK W0 G1' G2' w' g r (putLs L x) sg (putLs L x) ps) ∧
    Hid (∀ b, BkG G1' G2' b → BkG G1 G2 b ∨ w.heap.size ≤ b) ∧ Hid (Chg (BkG G1 G2) w w') ∧ Hid (u.cs.n ≤ u.cs.c)
theorem g_slice {P : Program} {op : BinOp} {ty : TypeId} {x y : Operand} {A B : Option Addr} {n c m d : Nat} (w : World) : (eqGuard op ty x y (.slice A n c) (.slice B m d)).run P w = .ok () w := by
  simp [eqGuard, go_sem]

set_option maxRecDepth 100000 in
set_option maxHeartbeats 4000000 in
theorem law8_put {W0 : World} {G1 G2 : Nat → Prop} {g r : Nat} {L : List (List UInt8)} {sg : Int × Int → Bool} {ps : List (Int × Int)} (x : MsD) (v : MsV) (w : World) (HT : Hid (TwK W0 G1 G2 w g r L sg L ps)) (HN : Hid (L.length ≤ 65535)) (HS : Hid (MsS w x v)) (HK : Hid (MsK x v)) (HZ : Hid (MsZ x v)) {C : Array Value} (HC : Hid (C = msC x v)) :
    Calls Try.prog 18 #[.pointer (some ⟨g, 0, none⟩), .pointer (some ⟨r, 0, none⟩), .agg C] w (PutE W0 G1 G2 w g r L sg ps x) := by
  have HF : Hid (∀ b, BkG G1 G2 b → b < w.heap.size) := HT.out.lt
  have HCH := hide (Chg.refl (BkG G1 G2) w)
  have H0 := hide HT.out.tw.below.size
  go_enter Try.func18, Try.ntmps18
  refine act_off 72 [(0, .pointer (some ⟨g, 0, none⟩)), (1, .pointer (some ⟨r, 0, none⟩)), (2, .agg C)] (Frm.start rfl (by intro p hp; simp only [List.mem_cons, List.not_mem_nil, or_false] at hp; rcases hp with rfl | rfl | rfl <;> rfl)) (fun a0 hM => ?_)
  have HB2 : Hid (Below w.heap.size w w) := Below.refl _ _
  refine region_then fun K3 QK3 hK3 => ?_
  refine s_alloc (e := 42) hM (.inl rfl) rfl rfl (V := fun g => .pointer (some ⟨g, 0, none⟩)) (ev_box hM rfl rfl) (fun g4 a10 w5 hM9 KB8_ hb6 hg7 => ?_)
  have KB8 := hide KB8_
  clear hM KB8_
  have LO5 := hide (Nat.le_trans HB2.out.size hg7)
  clear hg7
  have HB11 := hide (below_then HB2.out hb6)
  clear hb6 HB2
  have HB13 : Hid (Below w5.heap.size w5 w5) := Below.refl _ _
  refine s_alloc (e := 42) hM9 (.inl rfl) rfl rfl (V := fun g => .pointer (some ⟨g, 0, none⟩)) (ev_alloc rfl alloc_msg) (fun g14 a20 w15 hM19 KB18_ hb16 hg17 => ?_)
  have KB18 := hide KB18_
  clear hM9 KB18_
  have LO6 := hide (Nat.le_trans HB11.out.size hg17)
  clear hg17
  have HB21 := hide (below_then HB11.out hb16)
  have HB22 := hide (below_then HB13.out hb16)
  clear hb16 HB11 HB13
  have HB24 : Hid (Below w15.heap.size w15 w15) := Below.refl _ _
  refine s_val hM19 (.inl rfl) rfl rfl (ev_move (.inr rfl) rfl) (fun a26 hM25 => ?_)
  clear hM19
  refine seg_nil (hK3 _ _ ?_)
  clear hK3 K3 QK3
  have hM27 := hM25.cut4 (t1 := 0) (t2 := 1) (t3 := 5) (t4 := 6) rfl rfl rfl rfl
  clear hM25
  refine region_then fun K28 QK28 hK28 => ?_
  refine s_val hM27 (.inl rfl) rfl rfl (ev_loadm rfl rfl (KB8.out.on HB22.out).rng Try.underlying42 rfl (by rw [HC.out]; exact Try.infoMsg)) (fun a30 hM29 => ?_)
  clear hM27
  refine s_call hM29 (.inl rfl) rfl rfl (f := 17) (args := #[.agg C]) (ev_call hM29 rfl rfl rfl (fun w => by simp [go_sem]) _) (copy_msg2 (hide (HS.out.below HB21.out)) HK HZ HC) (fun e w31 hp => ?_)
  obtain ⟨D, u, rfl, HD, HCF, hb32⟩ := hp
  have HUZ := hide HCF.out.2.1
  have HUC : Hid (u.cs.n ≤ u.cs.c) := by
    obtain ⟨_, _, e, h, _⟩ := own_slice_cap HCF.out.1.cs
    unfold SlV.v at e
    injection e with _ _ e3
    rw [e3]; exact h
  have HUK := hide (MsS.k2 (HS.out.below HB21.out) HCF.out.1.s HK.out)
  have HI0 := hide (MsIn.of_own (F := FK (fun b => b = g14 ∨ b < w.heap.size) G1 G2) HCF.out.1 HUZ.out HUK.out (fun b h => h.elim (fun h => Nat.lt_of_lt_of_le (HF.out b h) HB21.out.size) (fun e => e.elim (fun e => by subst e; exact ((KB18.out.on HB24.out)).lt) (fun h => Nat.lt_of_lt_of_le h HB21.out.size))))
  clear HCF HUZ HUK
  refine ⟨_, rfl, fun a34 hM33 => ?_⟩
  clear hM29
  have HB35 := hide (below_then HB21.out hb32)
  have HB36 := hide (below_then HB22.out hb32)
  have HB37 := hide (below_then HB24.out hb32)
  clear hb32 HB21 HB22 HB24
  have HB39 : Hid (Below w31.heap.size w31 w31) := Below.refl _ _
  refine s_new hM33 rfl rfl rfl rfl alloc_msg rfl rfl rfl rfl (by rw [HD.out]; exact Try.infoMsg) (by rw [HD.out]; rfl) (one_msg HD.out) (fun g40 a46 w41 hM45 KB44_ hb42 hg43 => ?_)
  have KB44 := hide KB44_
  clear hM33 KB44_
  have LO8 := hide (Nat.le_trans HB35.out.size hg43)
  have lo47 := hide (Nat.le_trans HB35.out.size hg43)
  have lo48 := hide (Nat.le_trans HB36.out.size hg43)
  have lo49 := hide (Nat.le_trans HB37.out.size hg43)
  have lo50 := hide (Nat.le_trans HB39.out.size hg43)
  clear hg43
  have HB51 := hide (below_then HB35.out hb42)
  have HB52 := hide (below_then HB36.out hb42)
  have HB53 := hide (below_then HB37.out hb42)
  have HB54 := hide (below_then HB39.out hb42)
  clear hb42 HB35 HB36 HB37 HB39
  have HB56 : Hid (Below w41.heap.size w41 w41) := Below.refl _ _
  obtain ⟨K, HKD⟩ : ∃ K : Nat → Prop, Hid (K = K3 g14 g40 w.heap.size) := ⟨_, rfl⟩
  have HI := hide (HI0.out.to (F' := FK K G1 G2) (fun b h => by
    rw [HKD.out] at h
    rcases h with h | (h | h) | h
    · exact Or.inl (Or.inl h)
    · exact Or.inl (Or.inr (Or.inl h))
    · exact Or.inr (by subst h; exact lo50.out)
    · exact Or.inl (Or.inr (Or.inr h))))
  have K6 : Hid (K g14) := by rw [HKD.out]; exact Or.inl K2.l
  have K8 : Hid (K g40) := by rw [HKD.out]; exact Or.inl K2.r
  have HKW : Hid (∀ q, K2 g14 g40 q → w.heap.size ≤ q) := K2.le LO6.out LO8.out
  have HNE : Hid (g14 ≠ g40) := fun e => by have h1 := KB18.out.lt; have h2 := lo49.out; omega
  clear HI0
  refine seg_nil (hK28 _ _ ?_)
  clear hK28 K28 QK28
  have hM57 := hM45.cut5 (t1 := 0) (t2 := 1) (t3 := 5) (t4 := 6) (t5 := 8) rfl rfl rfl rfl rfl
  clear hM45
  refine region_then fun K58 QK58 hK58 => ?_
  refine s_val hM57 (.inl rfl) rfl rfl (ev_move (.inr rfl) rfl) (fun a60 hM59 => ?_)
  clear hM57
  refine seg_nil (hK58 _ _ ?_)
  clear hK58 K58 QK58
  have hM61 := hM59.cut6 (t1 := 0) (t2 := 1) (t3 := 5) (t4 := 6) (t5 := 8) (t6 := 9) rfl rfl rfl rfl rfl rfl
  clear hM59
  refine wp_seq_k fun K62 hK62 => ?_
  refine region_then fun K63 QK63 hK63 => ?_
  refine s_val hM61 (.inl rfl) rfl rfl (ev_fldw (m := 0) rfl rfl (fun w => by simp [go_sem])) (fun a65 hM64 => ?_)
  clear hM61
  refine s_val hM64 (.inl rfl) rfl rfl (ev_load1 (v := .int .i64 (x.k)) rfl rfl ((KB8.out.on HB52.out).rng.at_ (m := 0) (by rw [HC.out]; rfl)) (isAgg_no Try.underlying3 rfl)) (fun a67 hM66 => ?_)
  clear hM64
  refine seg_nil (hK63 _ _ ?_)
  clear hK63 K63 QK63
  have hM68 := hM66.cut7 (t1 := 0) (t2 := 1) (t3 := 5) (t4 := 6) (t5 := 8) (t6 := 9) (t7 := 15) rfl rfl rfl rfl rfl rfl rfl
  clear hM66
  refine wp_block ?_
  refine wp_seq_k fun K69 hK69 => ?_
  by_cases hk1 : x.k = 1
  case pos =>
    have HRAW := raw_13 (.inl hk1)
    have HK0 := hide hk1
    clear hk1
    obtain ⟨q, HFM⟩ : ∃ q, Hid ((mayB x.b.a x.b.n x.b.l) = q) := ⟨_, rfl⟩
    rw [HFM.out] at HRAW
    cases q
    case true =>
      simp only [Bool.false_eq_true, if_false, if_true] at HRAW
      have HRAW := hide HRAW
      obtain ⟨BT, HBT⟩ : ∃ C : Array Value, Hid (C = btC x v) := ⟨_, rfl⟩
      have HRBT : Hid (Rng w41 g4 4 BT) := (((KB8.out.on HB52.out)).rng).sub 4 (sub_bt HC.out HBT.out)
      have HB71 : Hid (Below w41.heap.size w41 w41) := Below.refl _ _
      refine region_then fun K72 QK72 hK72 => ?_
      refine s_val hM68 (.inl rfl) rfl rfl (ev_bin rfl rfl rfl g_int (b_eql (b := true) (decide_eq_true HK0.out))) (fun a74 hM73 => ?_)
      clear hM68
      refine s_val hM73 (.inl rfl) rfl rfl (ev_move (.inr rfl) rfl) (fun a76 hM75 => ?_)
      clear hM73
      refine seg_nil (hK72 _ _ ?_)
      clear hK72 K72 QK72
      have hM77 := hM75.cut8 (t1 := 0) (t2 := 1) (t3 := 5) (t4 := 6) (t5 := 8) (t6 := 9) (t7 := 15) (t8 := 16) rfl rfl rfl rfl rfl rfl rfl rfl
      clear hM75
      refine wp_cond_true (hM77.ev (t := 16) rfl) ?_
      refine wp_skip ?_
      refine hK69 _ _ ?_
      refine wp_cond_true (hM77.ev (t := 16) rfl) ?_
      refine region_then fun K78 QK78 hK78 => ?_
      refine s_val hM77 (.inl rfl) rfl rfl (ev_fldw (m := 4) rfl rfl (fun w => by simp [go_sem])) (fun a80 hM79 => ?_)
      clear hM77
      refine s_val hM79 (.inl rfl) rfl rfl (ev_loadm rfl rfl (HRBT.out.below HB71.out) Try.underlying36 rfl (by rw [HBT.out]; exact info_bat)) (fun a82 hM81 => ?_)
      clear hM79
      refine s_call hM81 (.inl rfl) rfl rfl (f := 38) (args := #[.agg BT]) (ev_call hM81 rfl rfl rfl (fun w => by simp [go_sem]) _) (by rw [HBT.out]; exact ref4_Batch x.b.a x.b.n _ ((HS.out.below HB51.out)).tx HZ.out.tx HZ.out.txz HFM) (fun e w83 hp => ?_)
      obtain ⟨rfl, hb84⟩ := hp
      refine ⟨_, rfl, fun a86 hM85 => ?_⟩
      clear hM81
      have HB87 := hide (below_then HB51.out hb84)
      have HB88 := hide (below_then HB52.out hb84)
      have HB89 := hide (below_then HB53.out hb84)
      have HB90 := hide (below_then HB54.out hb84)
      have HB91 := hide (below_then HB56.out hb84)
      have HB92 := hide (below_then HB71.out hb84)
      clear hb84 HB51 HB52 HB53 HB54 HB56 HB71
      refine seg_nil (hK78 _ _ ?_)
      clear hK78 K78 QK78
      have hM93 := hM85.cut7 (t1 := 0) (t2 := 1) (t3 := 5) (t4 := 6) (t5 := 8) (t6 := 9) (t7 := 21) rfl rfl rfl rfl rfl rfl rfl
      clear hM85
      refine wp_cond_true (hM93.ev (t := 21) rfl) ?_
      refine region_last fun K94 QK94 hK94 => ?_
      refine s_val hM93 (.inl rfl) rfl rfl (ev_fldw (m := 4) rfl rfl (fun w => by simp [go_sem])) (fun a96 hM95 => ?_)
      clear hM93
      refine s_val hM95 (.inl rfl) rfl rfl (ev_loadm rfl rfl (HRBT.out.below HB92.out) Try.underlying36 rfl (by rw [HBT.out]; exact info_bat)) (fun a98 hM97 => ?_)
      clear hM95
      refine s_call hM97 (.inl rfl) rfl rfl (f := 39) (args := #[.agg BT]) (ev_call hM97 rfl rfl rfl (fun w => by simp [go_sem]) _) (by rw [HBT.out]; exact ref4_BatchBytes x.b.a x.b.n _ ((HS.out.below HB87.out)).tx HFM.out) (fun e w99 hp => ?_)
      obtain ⟨v', rfl, ho, hb100⟩ := hp
      obtain ⟨gy, cH, rfl, -, -⟩ := ho.form (by exact putB_pos _)
      have HLY := hide (Nat.le_trans HB87.out.size (ho.lt gy rfl).1)
      have HY := hide (Sl.of_own ho)
      clear ho
      have HLEN : Hid ((batchB x.b.a x.b.n x.b.l).length ≤ 1048576) := by rw [Hid]; have := batchB_le HFM.out; omega
      refine ⟨_, rfl, fun a102 hM101 => ?_⟩
      clear hM97
      have HB103 := hide (below_then HB87.out hb100)
      have HB104 := hide (below_then HB88.out hb100)
      have HB105 := hide (below_then HB89.out hb100)
      have HB106 := hide (below_then HB90.out hb100)
      have HB107 := hide (below_then HB91.out hb100)
      have HB108 := hide (below_then HB92.out hb100)
      clear hb100 HB87 HB88 HB89 HB90 HB91 HB92
      have HB110 : Hid (Below w99.heap.size w99 w99) := Below.refl _ _
      refine s_val hM101 (.inl rfl) rfl rfl (ev_move (.inr rfl) rfl) (fun a112 hM111 => ?_)
      clear hM101
      refine seg_nil (hK94 _ _ ?_)
      clear hK94 K94 QK94
      have hM113 := hM111.cut6 (t1 := 0) (t2 := 1) (t3 := 5) (t4 := 6) (t5 := 8) (t6 := 9) rfl rfl rfl rfl rfl rfl
      clear hM111
      refine inb_n ?_
      refine hK62 _ _ ?_
      refine wp_seq_k fun K114 hK114 => ?_
      refine region_then fun K115 QK115 hK115 => ?_
      refine s_val hM113 (.inl rfl) rfl rfl (ev_move (.inl rfl) rfl) (fun a117 hM116 => ?_)
      clear hM113
      refine s_val hM116 (.inl rfl) rfl rfl (ev_bin (v := .bool false) rfl rfl rfl g_slice (fun w => Lib.run_eql_slice_nil w _ _ _ _ _ 0 0 Try.underlying60)) (fun a119 hM118 => ?_)
      clear hM116
      refine seg_nil (hK115 _ _ ?_)
      clear hK115 K115 QK115
      have hM120 := hM118.cut7 (t1 := 0) (t2 := 1) (t3 := 5) (t4 := 6) (t5 := 8) (t6 := 9) (t7 := 44) rfl rfl rfl rfl rfl rfl rfl
      clear hM118
      refine wp_cond_false (hM120.ev (t := 44) rfl) ?_
      refine wp_skip ?_
      refine hK114 _ _ ?_
      refine region_then fun K121 QK121 hK121 => ?_
      refine s_val hM120 (.inl rfl) rfl rfl (ev_move (.inl rfl) rfl) (fun a123 hM122 => ?_)
      clear hM120
      refine s_val hM122 (.inl rfl) rfl rfl (ev_move (.inl rfl) rfl) (fun a125 hM124 => ?_)
      clear hM122
      obtain ⟨dd, HDD⟩ : ∃ d, Hid (digN L (batchB x.b.a x.b.n x.b.l) = d) := ⟨_, rfl⟩
      obtain ⟨L2, HL2⟩ : ∃ l, Hid (addL L (batchB x.b.a x.b.n x.b.l) = l) := ⟨_, rfl⟩
      refine s_call hM124 (.inl rfl) rfl rfl (f := 30) (args := #[.pointer (some ⟨g, 0, none⟩), .slice ((some ⟨gy, 0, none⟩)) ((batchB x.b.a x.b.n x.b.l).length) cH]) (ev_call hM124 rfl rfl rfl (fun w => by simp [go_sem]) _) (book_Digest (x := batchB x.b.a x.b.n x.b.l) _ ((HT.out.below HB103.out)).tw.bk (HY.out.below HB110.out) HLEN HN (hide (fun _ b off e h => by injection e with e; injection e with e1 _; have h1 := HF.out _ (.inl h); have h2 := HLY.out; omega)) HDD HL2) (fun e w126 hp => ?_)
      obtain ⟨rfl, hn⟩ := hp
      obtain ⟨G1b, hT, hG1⟩ := ((HT.out.below HB103.out)).tw.impl hn
      have hc : Chg (BkG G1 G2) w99 w126 := hn.chg.mono (fun b h => .inl (.inl h))
      have HG1 : Hid (∀ b, G1b b → G1 b ∨ w.heap.size ≤ b) := fun b h => (hG1 b h).imp id (fun h => Nat.le_trans ((HCH.out.below HB103.out)).size h)
      have HN1 : Hid (∀ q, K2 g14 g40 q → ¬ G1b q) := fun q hk h => (hG1 _ h).elim (fun h => by have h1 := HF.out _ (.inl h); have h2 := HKW.out q hk; omega) (fun h => by have h1 := K2.lt ((KB18.out.on HB105.out)).lt ((KB44.out.on HB107.out)).lt q hk; omega)
      have HT_ := hide (show TwK W0 G1b G2 w126 g r L2 sg L ps from hT)
      have HCH_ := hide (((HCH.out.below HB103.out)).trans hc (fun b h => .inl h))
      have HY_ := hide (((HY.out.below HB110.out)).chg1 hc (fun h => by have h1 := HF.out _ h; have h2 := HLY.out; omega))
      have HI_ := hide (((HI.out.below HB106.out)).step (F' := FK K G1b G2) (hn.chg.mono (fun b h => .inl (.inl (.inl h)))) (fun b h => h.map hG1 (fun _ => Or.inl)))
      have KB130 := hide (((KB8.out.on HB104.out)).chg hc (fun h => by have h1 := HF.out _ h; have h2 := LO5.out; omega))
      have KB131 := hide (((KB18.out.on HB105.out)).chg hc (fun h => by have h1 := HF.out _ h; have h2 := LO6.out; omega))
      have KB132 := hide (((KB44.out.on HB107.out)).chg hc (fun h => by have h1 := HF.out _ h; have h2 := LO8.out; omega))
      clear HB103 HB104 HB105 HB106 HB107 HB108 HB110 KB8 KB18 KB44 HT HCH HY HI hn hT hG1 hc
      have HT := HT_
      clear HT_
      have HCH := HCH_
      clear HCH_
      have HY := HY_
      clear HY_
      have HI := HI_
      clear HI_
      have HB134 : Hid (Below w126.heap.size w126 w126) := Below.refl _ _
      refine ⟨_, rfl, fun a129 hM128 => ?_⟩
      clear hM124
      refine s_val hM128 (.inl rfl) rfl rfl (ev_move (.inl rfl) rfl) (fun a136 hM135 => ?_)
      clear hM128
      refine s_val hM135 (.inl rfl) rfl rfl (ev_ext (v := .int .i64 dd) rfl rfl rfl) (fun a138 hM137 => ?_)
      clear hM135
      refine s_val hM137 (.inl rfl) rfl rfl (ev_ext (v := .int .i64 0) rfl rfl rfl) (fun a140 hM139 => ?_)
      clear hM137
      refine s_val hM139 (.inl rfl) rfl rfl (ev_move (.inr rfl) rfl) (fun a142 hM141 => ?_)
      clear hM139
      refine s_val hM141 (.inl rfl) rfl rfl (ev_move (.inr rfl) rfl) (fun a144 hM143 => ?_)
      clear hM141
      refine seg_nil (hK121 _ _ ?_)
      clear hK121 K121 QK121
      have hM145 := hM143.cut8 (t1 := 0) (t2 := 1) (t3 := 5) (t4 := 6) (t5 := 8) (t6 := 9) (t7 := 10) (t8 := 11) rfl rfl rfl rfl rfl rfl rfl rfl
      clear hM143
      refine wp_seq_k fun K146 hK146 => ?_
      refine region_then fun K147 QK147 hK147 => ?_
      refine s_val hM145 (.inl rfl) rfl rfl (ev_move (.inl rfl) rfl) (fun a149 hM148 => ?_)
      clear hM145
      refine s_call hM148 (.inl rfl) rfl rfl (f := 19) (args := #[.int .i64 0]) (ev_call hM148 rfl rfl rfl (fun w => by simp [go_sem]) _) (law8_num _ _) (fun e w150 hp => ?_)
      obtain ⟨rfl, rfl⟩ := hp
      refine ⟨_, rfl, fun a153 hM152 => ?_⟩
      clear hM148
      refine s_val hM152 (.inl rfl) rfl rfl (ev_bin rfl rfl rfl g_int (b_neq (b := false) (by decide))) (fun a155 hM154 => ?_)
      clear hM152
      refine s_val hM154 (.inl rfl) rfl rfl (ev_move (.inl rfl) rfl) (fun a157 hM156 => ?_)
      clear hM154
      refine s_val hM156 (.inr ⟨_, _, _, rfl, rfl, rfl⟩) rfl rfl (ev_move (.inl rfl) rfl) (fun a159 hM158 => ?_)
      clear hM156
      refine s_val hM158 (.inr ⟨_, _, _, rfl, rfl, rfl⟩) rfl rfl (ev_move (.inl rfl) rfl) (fun a161 hM160 => ?_)
      clear hM158
      refine s_val hM160 (.inr ⟨_, _, _, rfl, rfl, rfl⟩) rfl rfl (ev_move (.inl rfl) rfl) (fun a163 hM162 => ?_)
      clear hM160
      refine s_call hM162 (.inr ⟨_, _, _, rfl, rfl, rfl⟩) rfl rfl (f := 41) (args := #[.pointer (some ⟨r, 0, none⟩), .slice ((some ⟨gy, 0, none⟩)) ((batchB x.b.a x.b.n x.b.l).length) cH]) (ev_call hM162 rfl rfl rfl (fun w => by simp [go_sem]) _) (ref5_Digest (x := batchB x.b.a x.b.n x.b.l) _ ((HT.out.below HB134.out)).tw.rf (HY.out.below HB134.out) HLEN HN HDD HL2) (fun e w164 hp => ?_)
      obtain ⟨rfl, hn⟩ := hp
      obtain ⟨G2b, hT, hG2⟩ := ((HT.out.below HB134.out)).tw.ref hn
      have hc : Chg (BkG G1 G2) w126 w164 := hn.chg.mono (fun b h => .inl (.inr h))
      have HG2 : Hid (∀ b, G2b b → G2 b ∨ w.heap.size ≤ b) := fun b h => (hG2 b h).imp id (fun h => Nat.le_trans ((HCH.out.below HB134.out)).size h)
      have HN2 : Hid (∀ q, K2 g14 g40 q → ¬ G2b q) := fun q hk h => (hG2 _ h).elim (fun h => by have h1 := HF.out _ (.inr h); have h2 := HKW.out q hk; omega) (fun h => by have h1 := K2.lt ((KB131.out.on HB134.out)).lt ((KB132.out.on HB134.out)).lt q hk; omega)
      have HT_ := hide (show TwK W0 G1b G2b w164 g r L2 sg L2 ps from hT)
      have HCH_ := hide (((HCH.out.below HB134.out)).trans hc (fun b h => .inl h))
      have HI_ := hide (((HI.out.below HB134.out)).step (F' := FK K G1b G2b) (hn.chg.mono (fun b h => .inl (.inl (.inr h)))) (fun b h => h.map (fun _ => Or.inl) hG2))
      have KB168 := hide (((KB130.out.on HB134.out)).chg hc (fun h => by have h1 := HF.out _ h; have h2 := LO5.out; omega))
      have KB169 := hide (((KB131.out.on HB134.out)).chg hc (fun h => by have h1 := HF.out _ h; have h2 := LO6.out; omega))
      have KB170 := hide (((KB132.out.on HB134.out)).chg hc (fun h => by have h1 := HF.out _ h; have h2 := LO8.out; omega))
      clear HB134 KB130 KB131 KB132 HT HCH HI hn hT hG2 hc HY
      have HT := HT_
      clear HT_
      have HCH := HCH_
      clear HCH_
      have HI := HI_
      clear HI_
      have HB172 : Hid (Below w164.heap.size w164 w164) := Below.refl _ _
      refine ⟨_, rfl, fun a167 hM166 => ?_⟩
      clear hM162
      refine s_val hM166 (.inr ⟨_, _, _, rfl, rfl, rfl⟩) rfl rfl (ev_bin rfl rfl rfl g_int (b_neq (b := false) (by simp))) (fun a174 hM173 => ?_)
      clear hM166
      refine s_val hM173 (.inl rfl) rfl rfl (ev_pick rfl rfl rfl) (fun a176 hM175 => ?_)
      clear hM173
      refine seg_nil (hK147 _ _ ?_)
      clear hK147 K147 QK147
      have hM177 := hM175.cut7 (t1 := 0) (t2 := 1) (t3 := 5) (t4 := 6) (t5 := 8) (t6 := 10) (t7 := 61) rfl rfl rfl rfl rfl rfl rfl
      clear hM175
      refine wp_cond_false (hM177.ev (t := 61) rfl) ?_
      refine wp_skip ?_
      refine hK146 _ _ ?_
      refine wp_seq_k fun K178 hK178 => ?_
      refine region_then fun K179 QK179 hK179 => ?_
      refine s_val hM177 (.inl rfl) rfl rfl (ev_fldw (m := 0) rfl rfl (fun w => by simp [go_sem])) (fun a181 hM180 => ?_)
      clear hM177
      refine s_val hM180 (.inl rfl) rfl rfl (ev_load1 (v := .int .i64 (x.k)) rfl rfl ((KB168.out.on HB172.out).rng.at_ (m := 0) (by rw [HC.out]; rfl)) (isAgg_no Try.underlying3 rfl)) (fun a183 hM182 => ?_)
      clear hM180
      refine s_val hM182 (.inl rfl) rfl rfl (ev_bin rfl rfl rfl g_int (b_eql (b := false) (by have := HK0.out; simp [this]))) (fun a185 hM184 => ?_)
      clear hM182
      refine seg_nil (hK179 _ _ ?_)
      clear hK179 K179 QK179
      have hM186 := hM184.cut7 (t1 := 0) (t2 := 1) (t3 := 5) (t4 := 6) (t5 := 8) (t6 := 10) (t7 := 65) rfl rfl rfl rfl rfl rfl rfl
      clear hM184
      refine wp_cond_false (hM186.ev (t := 65) rfl) ?_
      refine region_last fun K187 QK187 hK187 => ?_
      refine s_val hM186 (.inl rfl) rfl rfl (ev_move (.inl rfl) rfl) (fun a189 hM188 => ?_)
      clear hM186
      refine s_val hM188 (.inl rfl) rfl rfl (ev_fldw (m := 3) rfl rfl (fun w => by simp [go_sem])) (fun a191 hM190 => ?_)
      clear hM188
      refine s_put hM190 rfl rfl rfl rfl rfl (KB170.out.on HB172.out) (by rw [HD.out, msC_sz]; decide) (st_int Try.underlying3 (by kernel_rfl)) (fun w192 kd hg => ?_)
      obtain ⟨D2, HD2⟩ : ∃ D2 : Array Value, Hid (D2 = msC { x with d := dd } u) := ⟨_, rfl⟩
      have KD : Hid (Blk w192 g40 42 D2) := by have h := kd; rw [HD.out, set_d] at h; rw [HD2.out]; exact h
      clear kd
      have HT_ := hide (((HT.out.below HB172.out)).store hg (fun h => h.elim (HN1.out _ K2.r) (HN2.out _ K2.r)) (Nat.le_trans H0.out LO8.out))
      have HCH_ := hide (((HCH.out.below HB172.out)).trans (grown_chg hg) (fun b e => .inr (by subst e; exact LO8.out)))
      have HI_ := hide ((((HI.out.below HB172.out)).store hg K8.out).d dd)
      have KB193 := hide (((KB169.out.on HB172.out)).chg (grown_chg hg) HNE.out)
      clear HB172 KB169 KB170 HT HCH HI hg
      have HT := HT_
      clear HT_
      have HCH := HCH_
      clear HCH_
      have HI := HI_
      clear HI_
      have HB196 : Hid (Below w192.heap.size w192 w192) := Below.refl _ _
      refine seg_nil (hK187 _ _ ?_)
      clear hK187 K187 QK187
      have hM197 := hM190.cut5 (t1 := 0) (t2 := 1) (t3 := 5) (t4 := 6) (t5 := 8) rfl rfl rfl rfl rfl
      clear hM190
      refine hK178 _ _ ?_
      refine region_then fun K198 QK198 hK198 => ?_
      refine s_val hM197 (.inl rfl) rfl rfl (ev_loadm rfl rfl (KD.out.on HB196.out).rng Try.underlying42 rfl (by rw [HD2.out]; exact Try.infoMsg)) (fun a200 hM199 => ?_)
      clear hM197
      refine s_putrow hM199 rfl rfl rfl rfl rfl (KB193.out.on HB196.out) (by rw [HD2.out]; exact Try.infoMsg) (by rw [HD2.out]; rfl) (one_msg HD2.out) (fun w201 kd hg => ?_)
      have KD := hide kd
      clear kd
      have HT_ := hide (((HT.out.below HB196.out)).store hg (fun h => h.elim (HN1.out _ K2.l) (HN2.out _ K2.l)) (Nat.le_trans H0.out LO6.out))
      have HCH_ := hide (((HCH.out.below HB196.out)).trans (grown_chg hg) (fun b e => .inr (by subst e; exact LO6.out)))
      have HI_ := hide (((HI.out.below HB196.out)).store hg K6.out)
      clear HB196 KB193 HT HCH HI hg
      have HT := HT_
      clear HT_
      have HCH := HCH_
      clear HCH_
      have HI := HI_
      clear HI_
      have HB204 : Hid (Below w201.heap.size w201 w201) := Below.refl _ _
      refine s_val hM199 (.inl rfl) rfl rfl (ev_move (.inr rfl) rfl) (fun a206 hM205 => ?_)
      clear hM199
      refine seg_nil (hK198 _ _ ?_)
      clear hK198 K198 QK198
      have hM207 := hM205.cut2 (t1 := 6) (t2 := 7) rfl rfl
      clear hM205
      refine wp_ret ?_
      repeat (with_reducible first | refine th_r ?_ | refine inb_r ?_ | refine js_r ?_)
      refine ret_ct (p := 6) (t := 7) rfl hM207 rfl rfl (KD.out.on HB204.out) Try.underlying42 rfl (by rw [HD2.out]; exact Try.infoMsg) ?_
      have hP := put_d (L := L) HRAW.out (by have := HK0.out; omega)
      rw [HDD.out, HL2.out] at hP
      exact ⟨_, u, G1b, G2b, rfl, by rw [hP.1]; exact HD2, by rw [hP.1]; exact hide (((HI.out.below HB204.out)).to (fun b h => .inl (by rw [FK, HKD.out]; exact h.imp id (fun h => Or.inr h)))), by rw [hP.2]; exact hide (HT.out.below HB204.out), hide (fun b h => h.elim (fun h => (HG1.out b h).imp .inl id) (fun h => (HG2.out b h).imp .inr id)), hide (HCH.out.below HB204.out), HUC⟩
    case false =>
      simp only [Bool.false_eq_true, if_false, if_true] at HRAW
      have HRAW := hide HRAW
      obtain ⟨BT, HBT⟩ : ∃ C : Array Value, Hid (C = btC x v) := ⟨_, rfl⟩
      have HRBT : Hid (Rng w41 g4 4 BT) := (((KB8.out.on HB52.out)).rng).sub 4 (sub_bt HC.out HBT.out)
      have HB209 : Hid (Below w41.heap.size w41 w41) := Below.refl _ _
      refine region_then fun K210 QK210 hK210 => ?_
      refine s_val hM68 (.inl rfl) rfl rfl (ev_bin rfl rfl rfl g_int (b_eql (b := true) (decide_eq_true HK0.out))) (fun a212 hM211 => ?_)
      clear hM68
      refine s_val hM211 (.inl rfl) rfl rfl (ev_move (.inr rfl) rfl) (fun a214 hM213 => ?_)
      clear hM211
      refine seg_nil (hK210 _ _ ?_)
      clear hK210 K210 QK210
      have hM215 := hM213.cut8 (t1 := 0) (t2 := 1) (t3 := 5) (t4 := 6) (t5 := 8) (t6 := 9) (t7 := 15) (t8 := 16) rfl rfl rfl rfl rfl rfl rfl rfl
      clear hM213
      refine wp_cond_true (hM215.ev (t := 16) rfl) ?_
      refine wp_skip ?_
      refine hK69 _ _ ?_
      refine wp_cond_true (hM215.ev (t := 16) rfl) ?_
      refine region_then fun K216 QK216 hK216 => ?_
      refine s_val hM215 (.inl rfl) rfl rfl (ev_fldw (m := 4) rfl rfl (fun w => by simp [go_sem])) (fun a218 hM217 => ?_)
      clear hM215
      refine s_val hM217 (.inl rfl) rfl rfl (ev_loadm rfl rfl (HRBT.out.below HB209.out) Try.underlying36 rfl (by rw [HBT.out]; exact info_bat)) (fun a220 hM219 => ?_)
      clear hM217
      refine s_call hM219 (.inl rfl) rfl rfl (f := 38) (args := #[.agg BT]) (ev_call hM219 rfl rfl rfl (fun w => by simp [go_sem]) _) (by rw [HBT.out]; exact ref4_Batch x.b.a x.b.n _ ((HS.out.below HB51.out)).tx HZ.out.tx HZ.out.txz HFM) (fun e w221 hp => ?_)
      obtain ⟨rfl, hb222⟩ := hp
      refine ⟨_, rfl, fun a224 hM223 => ?_⟩
      clear hM219
      have HB225 := hide (below_then HB51.out hb222)
      have HB226 := hide (below_then HB52.out hb222)
      have HB227 := hide (below_then HB53.out hb222)
      have HB228 := hide (below_then HB54.out hb222)
      have HB229 := hide (below_then HB56.out hb222)
      have HB230 := hide (below_then HB209.out hb222)
      clear hb222 HB51 HB52 HB53 HB54 HB56 HB209
      refine seg_nil (hK216 _ _ ?_)
      clear hK216 K216 QK216
      have hM231 := hM223.cut7 (t1 := 0) (t2 := 1) (t3 := 5) (t4 := 6) (t5 := 8) (t6 := 9) (t7 := 21) rfl rfl rfl rfl rfl rfl rfl
      clear hM223
      refine wp_cond_false (hM231.ev (t := 21) rfl) ?_
      refine wp_skip ?_
      refine inb_n ?_
      refine hK62 _ _ ?_
      refine wp_seq_k fun K232 hK232 => ?_
      refine region_then fun K233 QK233 hK233 => ?_
      refine s_val hM231 (.inl rfl) rfl rfl (ev_move (.inl rfl) rfl) (fun a235 hM234 => ?_)
      clear hM231
      refine s_val hM234 (.inl rfl) rfl rfl (ev_bin (v := .bool true) rfl rfl rfl g_slice (fun w => Lib.run_eql_slice_nil w _ _ _ _ _ 0 0 Try.underlying60)) (fun a237 hM236 => ?_)
      clear hM234
      refine seg_nil (hK233 _ _ ?_)
      clear hK233 K233 QK233
      have hM238 := hM236.cut7 (t1 := 0) (t2 := 1) (t3 := 5) (t4 := 6) (t5 := 8) (t6 := 9) (t7 := 44) rfl rfl rfl rfl rfl rfl rfl
      clear hM236
      refine wp_cond_true (hM238.ev (t := 44) rfl) ?_
      refine region_then fun K239 QK239 hK239 => ?_
      refine s_val hM238 (.inl rfl) rfl rfl (ev_loadm rfl rfl (KB44.out.on HB229.out).rng Try.underlying42 rfl (by rw [HD.out]; exact Try.infoMsg)) (fun a241 hM240 => ?_)
      clear hM238
      refine s_putrow hM240 rfl rfl rfl rfl rfl (KB18.out.on HB227.out) (by rw [HD.out]; exact Try.infoMsg) (by rw [HD.out]; rfl) (one_msg HD.out) (fun w242 kd hg => ?_)
      have KD := hide kd
      clear kd
      have HT_ := hide (((HT.out.below HB225.out)).store hg (fun h => by have h1 := HF.out _ h; have h2 := LO6.out; omega) (Nat.le_trans H0.out LO6.out))
      have HCH_ := hide (((HCH.out.below HB225.out)).trans (grown_chg hg) (fun b e => .inr (by subst e; exact LO6.out)))
      have HI_ := hide (((HI.out.below HB228.out)).store hg K6.out)
      clear HB225 HB226 HB227 HB228 HB229 HB230 KB18 HT HCH HI hg
      have HT := HT_
      clear HT_
      have HCH := HCH_
      clear HCH_
      have HI := HI_
      clear HI_
      have HB245 : Hid (Below w242.heap.size w242 w242) := Below.refl _ _
      refine s_val hM240 (.inl rfl) rfl rfl (ev_move (.inr rfl) rfl) (fun a247 hM246 => ?_)
      clear hM240
      refine seg_nil (hK239 _ _ ?_)
      clear hK239 K239 QK239
      have hM248 := hM246.cut2 (t1 := 6) (t2 := 7) rfl rfl
      clear hM246
      refine wp_ret ?_
      repeat (with_reducible first | refine th_r ?_ | refine inb_r ?_ | refine js_r ?_)
      refine ret_ct (p := 6) (t := 7) rfl hM248 rfl rfl (KD.out.on HB245.out) Try.underlying42 rfl (by rw [HD.out]; exact Try.infoMsg) ?_
      have hP := put_none (L := L) HRAW.out
      exact ⟨_, u, G1, G2, rfl, by rw [hP.1]; exact HD, by rw [hP.1]; exact hide (((HI.out.below HB245.out)).to (fun b h => .inl (by rw [FK, HKD.out]; exact h.imp id (fun h => Or.inr h)))), by rw [hP.2]; exact hide (HT.out.below HB245.out), hide (fun b h => .inl h), hide (HCH.out.below HB245.out), HUC⟩
  case neg =>
    by_cases hk3 : x.k = 3
    case pos =>
      have HRAW := raw_13 (.inr hk3)
      have HK0 := hide hk3
      clear hk1 hk3
      obtain ⟨q, HFM⟩ : ∃ q, Hid ((mayB x.b.a x.b.n x.b.l) = q) := ⟨_, rfl⟩
      rw [HFM.out] at HRAW
      cases q
      case true =>
        simp only [Bool.false_eq_true, if_false, if_true] at HRAW
        have HRAW := hide HRAW
        obtain ⟨BT, HBT⟩ : ∃ C : Array Value, Hid (C = btC x v) := ⟨_, rfl⟩
        have HRBT : Hid (Rng w41 g4 4 BT) := (((KB8.out.on HB52.out)).rng).sub 4 (sub_bt HC.out HBT.out)
        have HB250 : Hid (Below w41.heap.size w41 w41) := Below.refl _ _
        refine region_then fun K251 QK251 hK251 => ?_
        refine s_val hM68 (.inl rfl) rfl rfl (ev_bin rfl rfl rfl g_int (b_eql (b := false) (by have := HK0.out; simp [this]))) (fun a253 hM252 => ?_)
        clear hM68
        refine s_val hM252 (.inl rfl) rfl rfl (ev_move (.inr rfl) rfl) (fun a255 hM254 => ?_)
        clear hM252
        refine seg_nil (hK251 _ _ ?_)
        clear hK251 K251 QK251
        have hM256 := hM254.cut8 (t1 := 0) (t2 := 1) (t3 := 5) (t4 := 6) (t5 := 8) (t6 := 9) (t7 := 15) (t8 := 16) rfl rfl rfl rfl rfl rfl rfl rfl
        clear hM254
        refine wp_cond_false (hM256.ev (t := 16) rfl) ?_
        refine region_last fun K257 QK257 hK257 => ?_
        refine s_val hM256 (.inl rfl) rfl rfl (ev_bin rfl rfl rfl g_int (b_eql (b := true) (decide_eq_true HK0.out))) (fun a259 hM258 => ?_)
        clear hM256
        refine s_val hM258 (.inl rfl) rfl rfl (ev_move (.inr rfl) rfl) (fun a261 hM260 => ?_)
        clear hM258
        refine seg_nil (hK257 _ _ ?_)
        clear hK257 K257 QK257
        have hM262 := hM260.cut8 (t1 := 0) (t2 := 1) (t3 := 5) (t4 := 6) (t5 := 8) (t6 := 9) (t7 := 15) (t8 := 16) rfl rfl rfl rfl rfl rfl rfl rfl
        clear hM260
        refine hK69 _ _ ?_
        refine wp_cond_true (hM262.ev (t := 16) rfl) ?_
        refine region_then fun K263 QK263 hK263 => ?_
        refine s_val hM262 (.inl rfl) rfl rfl (ev_fldw (m := 4) rfl rfl (fun w => by simp [go_sem])) (fun a265 hM264 => ?_)
        clear hM262
        refine s_val hM264 (.inl rfl) rfl rfl (ev_loadm rfl rfl (HRBT.out.below HB250.out) Try.underlying36 rfl (by rw [HBT.out]; exact info_bat)) (fun a267 hM266 => ?_)
        clear hM264
        refine s_call hM266 (.inl rfl) rfl rfl (f := 38) (args := #[.agg BT]) (ev_call hM266 rfl rfl rfl (fun w => by simp [go_sem]) _) (by rw [HBT.out]; exact ref4_Batch x.b.a x.b.n _ ((HS.out.below HB51.out)).tx HZ.out.tx HZ.out.txz HFM) (fun e w268 hp => ?_)
        obtain ⟨rfl, hb269⟩ := hp
        refine ⟨_, rfl, fun a271 hM270 => ?_⟩
        clear hM266
        have HB272 := hide (below_then HB51.out hb269)
        have HB273 := hide (below_then HB52.out hb269)
        have HB274 := hide (below_then HB53.out hb269)
        have HB275 := hide (below_then HB54.out hb269)
        have HB276 := hide (below_then HB56.out hb269)
        have HB277 := hide (below_then HB250.out hb269)
        clear hb269 HB51 HB52 HB53 HB54 HB56 HB250
        refine seg_nil (hK263 _ _ ?_)
        clear hK263 K263 QK263
        have hM278 := hM270.cut7 (t1 := 0) (t2 := 1) (t3 := 5) (t4 := 6) (t5 := 8) (t6 := 9) (t7 := 21) rfl rfl rfl rfl rfl rfl rfl
        clear hM270
        refine wp_cond_true (hM278.ev (t := 21) rfl) ?_
        refine region_last fun K279 QK279 hK279 => ?_
        refine s_val hM278 (.inl rfl) rfl rfl (ev_fldw (m := 4) rfl rfl (fun w => by simp [go_sem])) (fun a281 hM280 => ?_)
        clear hM278
        refine s_val hM280 (.inl rfl) rfl rfl (ev_loadm rfl rfl (HRBT.out.below HB277.out) Try.underlying36 rfl (by rw [HBT.out]; exact info_bat)) (fun a283 hM282 => ?_)
        clear hM280
        refine s_call hM282 (.inl rfl) rfl rfl (f := 39) (args := #[.agg BT]) (ev_call hM282 rfl rfl rfl (fun w => by simp [go_sem]) _) (by rw [HBT.out]; exact ref4_BatchBytes x.b.a x.b.n _ ((HS.out.below HB272.out)).tx HFM.out) (fun e w284 hp => ?_)
        obtain ⟨v', rfl, ho, hb285⟩ := hp
        obtain ⟨gy, cH, rfl, -, -⟩ := ho.form (by exact putB_pos _)
        have HLY := hide (Nat.le_trans HB272.out.size (ho.lt gy rfl).1)
        have HY := hide (Sl.of_own ho)
        clear ho
        have HLEN : Hid ((batchB x.b.a x.b.n x.b.l).length ≤ 1048576) := by rw [Hid]; have := batchB_le HFM.out; omega
        refine ⟨_, rfl, fun a287 hM286 => ?_⟩
        clear hM282
        have HB288 := hide (below_then HB272.out hb285)
        have HB289 := hide (below_then HB273.out hb285)
        have HB290 := hide (below_then HB274.out hb285)
        have HB291 := hide (below_then HB275.out hb285)
        have HB292 := hide (below_then HB276.out hb285)
        have HB293 := hide (below_then HB277.out hb285)
        clear hb285 HB272 HB273 HB274 HB275 HB276 HB277
        have HB295 : Hid (Below w284.heap.size w284 w284) := Below.refl _ _
        refine s_val hM286 (.inl rfl) rfl rfl (ev_move (.inr rfl) rfl) (fun a297 hM296 => ?_)
        clear hM286
        refine seg_nil (hK279 _ _ ?_)
        clear hK279 K279 QK279
        have hM298 := hM296.cut6 (t1 := 0) (t2 := 1) (t3 := 5) (t4 := 6) (t5 := 8) (t6 := 9) rfl rfl rfl rfl rfl rfl
        clear hM296
        refine inb_n ?_
        refine hK62 _ _ ?_
        refine wp_seq_k fun K299 hK299 => ?_
        refine region_then fun K300 QK300 hK300 => ?_
        refine s_val hM298 (.inl rfl) rfl rfl (ev_move (.inl rfl) rfl) (fun a302 hM301 => ?_)
        clear hM298
        refine s_val hM301 (.inl rfl) rfl rfl (ev_bin (v := .bool false) rfl rfl rfl g_slice (fun w => Lib.run_eql_slice_nil w _ _ _ _ _ 0 0 Try.underlying60)) (fun a304 hM303 => ?_)
        clear hM301
        refine seg_nil (hK300 _ _ ?_)
        clear hK300 K300 QK300
        have hM305 := hM303.cut7 (t1 := 0) (t2 := 1) (t3 := 5) (t4 := 6) (t5 := 8) (t6 := 9) (t7 := 44) rfl rfl rfl rfl rfl rfl rfl
        clear hM303
        refine wp_cond_false (hM305.ev (t := 44) rfl) ?_
        refine wp_skip ?_
        refine hK299 _ _ ?_
        refine region_then fun K306 QK306 hK306 => ?_
        refine s_val hM305 (.inl rfl) rfl rfl (ev_move (.inl rfl) rfl) (fun a308 hM307 => ?_)
        clear hM305
        refine s_val hM307 (.inl rfl) rfl rfl (ev_move (.inl rfl) rfl) (fun a310 hM309 => ?_)
        clear hM307
        obtain ⟨dd, HDD⟩ : ∃ d, Hid (digN L (batchB x.b.a x.b.n x.b.l) = d) := ⟨_, rfl⟩
        obtain ⟨L2, HL2⟩ : ∃ l, Hid (addL L (batchB x.b.a x.b.n x.b.l) = l) := ⟨_, rfl⟩
        refine s_call hM309 (.inl rfl) rfl rfl (f := 30) (args := #[.pointer (some ⟨g, 0, none⟩), .slice ((some ⟨gy, 0, none⟩)) ((batchB x.b.a x.b.n x.b.l).length) cH]) (ev_call hM309 rfl rfl rfl (fun w => by simp [go_sem]) _) (book_Digest (x := batchB x.b.a x.b.n x.b.l) _ ((HT.out.below HB288.out)).tw.bk (HY.out.below HB295.out) HLEN HN (hide (fun _ b off e h => by injection e with e; injection e with e1 _; have h1 := HF.out _ (.inl h); have h2 := HLY.out; omega)) HDD HL2) (fun e w311 hp => ?_)
        obtain ⟨rfl, hn⟩ := hp
        obtain ⟨G1b, hT, hG1⟩ := ((HT.out.below HB288.out)).tw.impl hn
        have hc : Chg (BkG G1 G2) w284 w311 := hn.chg.mono (fun b h => .inl (.inl h))
        have HG1 : Hid (∀ b, G1b b → G1 b ∨ w.heap.size ≤ b) := fun b h => (hG1 b h).imp id (fun h => Nat.le_trans ((HCH.out.below HB288.out)).size h)
        have HN1 : Hid (∀ q, K2 g14 g40 q → ¬ G1b q) := fun q hk h => (hG1 _ h).elim (fun h => by have h1 := HF.out _ (.inl h); have h2 := HKW.out q hk; omega) (fun h => by have h1 := K2.lt ((KB18.out.on HB290.out)).lt ((KB44.out.on HB292.out)).lt q hk; omega)
        have HT_ := hide (show TwK W0 G1b G2 w311 g r L2 sg L ps from hT)
        have HCH_ := hide (((HCH.out.below HB288.out)).trans hc (fun b h => .inl h))
        have HY_ := hide (((HY.out.below HB295.out)).chg1 hc (fun h => by have h1 := HF.out _ h; have h2 := HLY.out; omega))
        have HI_ := hide (((HI.out.below HB291.out)).step (F' := FK K G1b G2) (hn.chg.mono (fun b h => .inl (.inl (.inl h)))) (fun b h => h.map hG1 (fun _ => Or.inl)))
        have KB315 := hide (((KB8.out.on HB289.out)).chg hc (fun h => by have h1 := HF.out _ h; have h2 := LO5.out; omega))
        have KB316 := hide (((KB18.out.on HB290.out)).chg hc (fun h => by have h1 := HF.out _ h; have h2 := LO6.out; omega))
        have KB317 := hide (((KB44.out.on HB292.out)).chg hc (fun h => by have h1 := HF.out _ h; have h2 := LO8.out; omega))
        clear HB288 HB289 HB290 HB291 HB292 HB293 HB295 KB8 KB18 KB44 HT HCH HY HI hn hT hG1 hc
        have HT := HT_
        clear HT_
        have HCH := HCH_
        clear HCH_
        have HY := HY_
        clear HY_
        have HI := HI_
        clear HI_
        have HB319 : Hid (Below w311.heap.size w311 w311) := Below.refl _ _
        refine ⟨_, rfl, fun a314 hM313 => ?_⟩
        clear hM309
        refine s_val hM313 (.inl rfl) rfl rfl (ev_move (.inl rfl) rfl) (fun a321 hM320 => ?_)
        clear hM313
        refine s_val hM320 (.inl rfl) rfl rfl (ev_ext (v := .int .i64 dd) rfl rfl rfl) (fun a323 hM322 => ?_)
        clear hM320
        refine s_val hM322 (.inl rfl) rfl rfl (ev_ext (v := .int .i64 0) rfl rfl rfl) (fun a325 hM324 => ?_)
        clear hM322
        refine s_val hM324 (.inl rfl) rfl rfl (ev_move (.inr rfl) rfl) (fun a327 hM326 => ?_)
        clear hM324
        refine s_val hM326 (.inl rfl) rfl rfl (ev_move (.inr rfl) rfl) (fun a329 hM328 => ?_)
        clear hM326
        refine seg_nil (hK306 _ _ ?_)
        clear hK306 K306 QK306
        have hM330 := hM328.cut8 (t1 := 0) (t2 := 1) (t3 := 5) (t4 := 6) (t5 := 8) (t6 := 9) (t7 := 10) (t8 := 11) rfl rfl rfl rfl rfl rfl rfl rfl
        clear hM328
        refine wp_seq_k fun K331 hK331 => ?_
        refine region_then fun K332 QK332 hK332 => ?_
        refine s_val hM330 (.inl rfl) rfl rfl (ev_move (.inl rfl) rfl) (fun a334 hM333 => ?_)
        clear hM330
        refine s_call hM333 (.inl rfl) rfl rfl (f := 19) (args := #[.int .i64 0]) (ev_call hM333 rfl rfl rfl (fun w => by simp [go_sem]) _) (law8_num _ _) (fun e w335 hp => ?_)
        obtain ⟨rfl, rfl⟩ := hp
        refine ⟨_, rfl, fun a338 hM337 => ?_⟩
        clear hM333
        refine s_val hM337 (.inl rfl) rfl rfl (ev_bin rfl rfl rfl g_int (b_neq (b := false) (by decide))) (fun a340 hM339 => ?_)
        clear hM337
        refine s_val hM339 (.inl rfl) rfl rfl (ev_move (.inl rfl) rfl) (fun a342 hM341 => ?_)
        clear hM339
        refine s_val hM341 (.inr ⟨_, _, _, rfl, rfl, rfl⟩) rfl rfl (ev_move (.inl rfl) rfl) (fun a344 hM343 => ?_)
        clear hM341
        refine s_val hM343 (.inr ⟨_, _, _, rfl, rfl, rfl⟩) rfl rfl (ev_move (.inl rfl) rfl) (fun a346 hM345 => ?_)
        clear hM343
        refine s_val hM345 (.inr ⟨_, _, _, rfl, rfl, rfl⟩) rfl rfl (ev_move (.inl rfl) rfl) (fun a348 hM347 => ?_)
        clear hM345
        refine s_call hM347 (.inr ⟨_, _, _, rfl, rfl, rfl⟩) rfl rfl (f := 41) (args := #[.pointer (some ⟨r, 0, none⟩), .slice ((some ⟨gy, 0, none⟩)) ((batchB x.b.a x.b.n x.b.l).length) cH]) (ev_call hM347 rfl rfl rfl (fun w => by simp [go_sem]) _) (ref5_Digest (x := batchB x.b.a x.b.n x.b.l) _ ((HT.out.below HB319.out)).tw.rf (HY.out.below HB319.out) HLEN HN HDD HL2) (fun e w349 hp => ?_)
        obtain ⟨rfl, hn⟩ := hp
        obtain ⟨G2b, hT, hG2⟩ := ((HT.out.below HB319.out)).tw.ref hn
        have hc : Chg (BkG G1 G2) w311 w349 := hn.chg.mono (fun b h => .inl (.inr h))
        have HG2 : Hid (∀ b, G2b b → G2 b ∨ w.heap.size ≤ b) := fun b h => (hG2 b h).imp id (fun h => Nat.le_trans ((HCH.out.below HB319.out)).size h)
        have HN2 : Hid (∀ q, K2 g14 g40 q → ¬ G2b q) := fun q hk h => (hG2 _ h).elim (fun h => by have h1 := HF.out _ (.inr h); have h2 := HKW.out q hk; omega) (fun h => by have h1 := K2.lt ((KB316.out.on HB319.out)).lt ((KB317.out.on HB319.out)).lt q hk; omega)
        have HT_ := hide (show TwK W0 G1b G2b w349 g r L2 sg L2 ps from hT)
        have HCH_ := hide (((HCH.out.below HB319.out)).trans hc (fun b h => .inl h))
        have HI_ := hide (((HI.out.below HB319.out)).step (F' := FK K G1b G2b) (hn.chg.mono (fun b h => .inl (.inl (.inr h)))) (fun b h => h.map (fun _ => Or.inl) hG2))
        have KB353 := hide (((KB315.out.on HB319.out)).chg hc (fun h => by have h1 := HF.out _ h; have h2 := LO5.out; omega))
        have KB354 := hide (((KB316.out.on HB319.out)).chg hc (fun h => by have h1 := HF.out _ h; have h2 := LO6.out; omega))
        have KB355 := hide (((KB317.out.on HB319.out)).chg hc (fun h => by have h1 := HF.out _ h; have h2 := LO8.out; omega))
        clear HB319 KB315 KB316 KB317 HT HCH HI hn hT hG2 hc HY
        have HT := HT_
        clear HT_
        have HCH := HCH_
        clear HCH_
        have HI := HI_
        clear HI_
        have HB357 : Hid (Below w349.heap.size w349 w349) := Below.refl _ _
        refine ⟨_, rfl, fun a352 hM351 => ?_⟩
        clear hM347
        refine s_val hM351 (.inr ⟨_, _, _, rfl, rfl, rfl⟩) rfl rfl (ev_bin rfl rfl rfl g_int (b_neq (b := false) (by simp))) (fun a359 hM358 => ?_)
        clear hM351
        refine s_val hM358 (.inl rfl) rfl rfl (ev_pick rfl rfl rfl) (fun a361 hM360 => ?_)
        clear hM358
        refine seg_nil (hK332 _ _ ?_)
        clear hK332 K332 QK332
        have hM362 := hM360.cut7 (t1 := 0) (t2 := 1) (t3 := 5) (t4 := 6) (t5 := 8) (t6 := 10) (t7 := 61) rfl rfl rfl rfl rfl rfl rfl
        clear hM360
        refine wp_cond_false (hM362.ev (t := 61) rfl) ?_
        refine wp_skip ?_
        refine hK331 _ _ ?_
        refine wp_seq_k fun K363 hK363 => ?_
        refine region_then fun K364 QK364 hK364 => ?_
        refine s_val hM362 (.inl rfl) rfl rfl (ev_fldw (m := 0) rfl rfl (fun w => by simp [go_sem])) (fun a366 hM365 => ?_)
        clear hM362
        refine s_val hM365 (.inl rfl) rfl rfl (ev_load1 (v := .int .i64 (x.k)) rfl rfl ((KB353.out.on HB357.out).rng.at_ (m := 0) (by rw [HC.out]; rfl)) (isAgg_no Try.underlying3 rfl)) (fun a368 hM367 => ?_)
        clear hM365
        refine s_val hM367 (.inl rfl) rfl rfl (ev_bin rfl rfl rfl g_int (b_eql (b := false) (by have := HK0.out; simp [this]))) (fun a370 hM369 => ?_)
        clear hM367
        refine seg_nil (hK364 _ _ ?_)
        clear hK364 K364 QK364
        have hM371 := hM369.cut7 (t1 := 0) (t2 := 1) (t3 := 5) (t4 := 6) (t5 := 8) (t6 := 10) (t7 := 65) rfl rfl rfl rfl rfl rfl rfl
        clear hM369
        refine wp_cond_false (hM371.ev (t := 65) rfl) ?_
        refine region_last fun K372 QK372 hK372 => ?_
        refine s_val hM371 (.inl rfl) rfl rfl (ev_move (.inl rfl) rfl) (fun a374 hM373 => ?_)
        clear hM371
        refine s_val hM373 (.inl rfl) rfl rfl (ev_fldw (m := 3) rfl rfl (fun w => by simp [go_sem])) (fun a376 hM375 => ?_)
        clear hM373
        refine s_put hM375 rfl rfl rfl rfl rfl (KB355.out.on HB357.out) (by rw [HD.out, msC_sz]; decide) (st_int Try.underlying3 (by kernel_rfl)) (fun w377 kd hg => ?_)
        obtain ⟨D2, HD2⟩ : ∃ D2 : Array Value, Hid (D2 = msC { x with d := dd } u) := ⟨_, rfl⟩
        have KD : Hid (Blk w377 g40 42 D2) := by have h := kd; rw [HD.out, set_d] at h; rw [HD2.out]; exact h
        clear kd
        have HT_ := hide (((HT.out.below HB357.out)).store hg (fun h => h.elim (HN1.out _ K2.r) (HN2.out _ K2.r)) (Nat.le_trans H0.out LO8.out))
        have HCH_ := hide (((HCH.out.below HB357.out)).trans (grown_chg hg) (fun b e => .inr (by subst e; exact LO8.out)))
        have HI_ := hide ((((HI.out.below HB357.out)).store hg K8.out).d dd)
        have KB378 := hide (((KB354.out.on HB357.out)).chg (grown_chg hg) HNE.out)
        clear HB357 KB354 KB355 HT HCH HI hg
        have HT := HT_
        clear HT_
        have HCH := HCH_
        clear HCH_
        have HI := HI_
        clear HI_
        have HB381 : Hid (Below w377.heap.size w377 w377) := Below.refl _ _
        refine seg_nil (hK372 _ _ ?_)
        clear hK372 K372 QK372
        have hM382 := hM375.cut5 (t1 := 0) (t2 := 1) (t3 := 5) (t4 := 6) (t5 := 8) rfl rfl rfl rfl rfl
        clear hM375
        refine hK363 _ _ ?_
        refine region_then fun K383 QK383 hK383 => ?_
        refine s_val hM382 (.inl rfl) rfl rfl (ev_loadm rfl rfl (KD.out.on HB381.out).rng Try.underlying42 rfl (by rw [HD2.out]; exact Try.infoMsg)) (fun a385 hM384 => ?_)
        clear hM382
        refine s_putrow hM384 rfl rfl rfl rfl rfl (KB378.out.on HB381.out) (by rw [HD2.out]; exact Try.infoMsg) (by rw [HD2.out]; rfl) (one_msg HD2.out) (fun w386 kd hg => ?_)
        have KD := hide kd
        clear kd
        have HT_ := hide (((HT.out.below HB381.out)).store hg (fun h => h.elim (HN1.out _ K2.l) (HN2.out _ K2.l)) (Nat.le_trans H0.out LO6.out))
        have HCH_ := hide (((HCH.out.below HB381.out)).trans (grown_chg hg) (fun b e => .inr (by subst e; exact LO6.out)))
        have HI_ := hide (((HI.out.below HB381.out)).store hg K6.out)
        clear HB381 KB378 HT HCH HI hg
        have HT := HT_
        clear HT_
        have HCH := HCH_
        clear HCH_
        have HI := HI_
        clear HI_
        have HB389 : Hid (Below w386.heap.size w386 w386) := Below.refl _ _
        refine s_val hM384 (.inl rfl) rfl rfl (ev_move (.inr rfl) rfl) (fun a391 hM390 => ?_)
        clear hM384
        refine seg_nil (hK383 _ _ ?_)
        clear hK383 K383 QK383
        have hM392 := hM390.cut2 (t1 := 6) (t2 := 7) rfl rfl
        clear hM390
        refine wp_ret ?_
        repeat (with_reducible first | refine th_r ?_ | refine inb_r ?_ | refine js_r ?_)
        refine ret_ct (p := 6) (t := 7) rfl hM392 rfl rfl (KD.out.on HB389.out) Try.underlying42 rfl (by rw [HD2.out]; exact Try.infoMsg) ?_
        have hP := put_d (L := L) HRAW.out (by have := HK0.out; omega)
        rw [HDD.out, HL2.out] at hP
        exact ⟨_, u, G1b, G2b, rfl, by rw [hP.1]; exact HD2, by rw [hP.1]; exact hide (((HI.out.below HB389.out)).to (fun b h => .inl (by rw [FK, HKD.out]; exact h.imp id (fun h => Or.inr h)))), by rw [hP.2]; exact hide (HT.out.below HB389.out), hide (fun b h => h.elim (fun h => (HG1.out b h).imp .inl id) (fun h => (HG2.out b h).imp .inr id)), hide (HCH.out.below HB389.out), HUC⟩
      case false =>
        simp only [Bool.false_eq_true, if_false, if_true] at HRAW
        have HRAW := hide HRAW
        obtain ⟨BT, HBT⟩ : ∃ C : Array Value, Hid (C = btC x v) := ⟨_, rfl⟩
        have HRBT : Hid (Rng w41 g4 4 BT) := (((KB8.out.on HB52.out)).rng).sub 4 (sub_bt HC.out HBT.out)
        have HB394 : Hid (Below w41.heap.size w41 w41) := Below.refl _ _
        refine region_then fun K395 QK395 hK395 => ?_
        refine s_val hM68 (.inl rfl) rfl rfl (ev_bin rfl rfl rfl g_int (b_eql (b := false) (by have := HK0.out; simp [this]))) (fun a397 hM396 => ?_)
        clear hM68
        refine s_val hM396 (.inl rfl) rfl rfl (ev_move (.inr rfl) rfl) (fun a399 hM398 => ?_)
        clear hM396
        refine seg_nil (hK395 _ _ ?_)
        clear hK395 K395 QK395
        have hM400 := hM398.cut8 (t1 := 0) (t2 := 1) (t3 := 5) (t4 := 6) (t5 := 8) (t6 := 9) (t7 := 15) (t8 := 16) rfl rfl rfl rfl rfl rfl rfl rfl
        clear hM398
        refine wp_cond_false (hM400.ev (t := 16) rfl) ?_
        refine region_last fun K401 QK401 hK401 => ?_
        refine s_val hM400 (.inl rfl) rfl rfl (ev_bin rfl rfl rfl g_int (b_eql (b := true) (decide_eq_true HK0.out))) (fun a403 hM402 => ?_)
        clear hM400
        refine s_val hM402 (.inl rfl) rfl rfl (ev_move (.inr rfl) rfl) (fun a405 hM404 => ?_)
        clear hM402
        refine seg_nil (hK401 _ _ ?_)
        clear hK401 K401 QK401
        have hM406 := hM404.cut8 (t1 := 0) (t2 := 1) (t3 := 5) (t4 := 6) (t5 := 8) (t6 := 9) (t7 := 15) (t8 := 16) rfl rfl rfl rfl rfl rfl rfl rfl
        clear hM404
        refine hK69 _ _ ?_
        refine wp_cond_true (hM406.ev (t := 16) rfl) ?_
        refine region_then fun K407 QK407 hK407 => ?_
        refine s_val hM406 (.inl rfl) rfl rfl (ev_fldw (m := 4) rfl rfl (fun w => by simp [go_sem])) (fun a409 hM408 => ?_)
        clear hM406
        refine s_val hM408 (.inl rfl) rfl rfl (ev_loadm rfl rfl (HRBT.out.below HB394.out) Try.underlying36 rfl (by rw [HBT.out]; exact info_bat)) (fun a411 hM410 => ?_)
        clear hM408
        refine s_call hM410 (.inl rfl) rfl rfl (f := 38) (args := #[.agg BT]) (ev_call hM410 rfl rfl rfl (fun w => by simp [go_sem]) _) (by rw [HBT.out]; exact ref4_Batch x.b.a x.b.n _ ((HS.out.below HB51.out)).tx HZ.out.tx HZ.out.txz HFM) (fun e w412 hp => ?_)
        obtain ⟨rfl, hb413⟩ := hp
        refine ⟨_, rfl, fun a415 hM414 => ?_⟩
        clear hM410
        have HB416 := hide (below_then HB51.out hb413)
        have HB417 := hide (below_then HB52.out hb413)
        have HB418 := hide (below_then HB53.out hb413)
        have HB419 := hide (below_then HB54.out hb413)
        have HB420 := hide (below_then HB56.out hb413)
        have HB421 := hide (below_then HB394.out hb413)
        clear hb413 HB51 HB52 HB53 HB54 HB56 HB394
        refine seg_nil (hK407 _ _ ?_)
        clear hK407 K407 QK407
        have hM422 := hM414.cut7 (t1 := 0) (t2 := 1) (t3 := 5) (t4 := 6) (t5 := 8) (t6 := 9) (t7 := 21) rfl rfl rfl rfl rfl rfl rfl
        clear hM414
        refine wp_cond_false (hM422.ev (t := 21) rfl) ?_
        refine wp_skip ?_
        refine inb_n ?_
        refine hK62 _ _ ?_
        refine wp_seq_k fun K423 hK423 => ?_
        refine region_then fun K424 QK424 hK424 => ?_
        refine s_val hM422 (.inl rfl) rfl rfl (ev_move (.inl rfl) rfl) (fun a426 hM425 => ?_)
        clear hM422
        refine s_val hM425 (.inl rfl) rfl rfl (ev_bin (v := .bool true) rfl rfl rfl g_slice (fun w => Lib.run_eql_slice_nil w _ _ _ _ _ 0 0 Try.underlying60)) (fun a428 hM427 => ?_)
        clear hM425
        refine seg_nil (hK424 _ _ ?_)
        clear hK424 K424 QK424
        have hM429 := hM427.cut7 (t1 := 0) (t2 := 1) (t3 := 5) (t4 := 6) (t5 := 8) (t6 := 9) (t7 := 44) rfl rfl rfl rfl rfl rfl rfl
        clear hM427
        refine wp_cond_true (hM429.ev (t := 44) rfl) ?_
        refine region_then fun K430 QK430 hK430 => ?_
        refine s_val hM429 (.inl rfl) rfl rfl (ev_loadm rfl rfl (KB44.out.on HB420.out).rng Try.underlying42 rfl (by rw [HD.out]; exact Try.infoMsg)) (fun a432 hM431 => ?_)
        clear hM429
        refine s_putrow hM431 rfl rfl rfl rfl rfl (KB18.out.on HB418.out) (by rw [HD.out]; exact Try.infoMsg) (by rw [HD.out]; rfl) (one_msg HD.out) (fun w433 kd hg => ?_)
        have KD := hide kd
        clear kd
        have HT_ := hide (((HT.out.below HB416.out)).store hg (fun h => by have h1 := HF.out _ h; have h2 := LO6.out; omega) (Nat.le_trans H0.out LO6.out))
        have HCH_ := hide (((HCH.out.below HB416.out)).trans (grown_chg hg) (fun b e => .inr (by subst e; exact LO6.out)))
        have HI_ := hide (((HI.out.below HB419.out)).store hg K6.out)
        clear HB416 HB417 HB418 HB419 HB420 HB421 KB18 HT HCH HI hg
        have HT := HT_
        clear HT_
        have HCH := HCH_
        clear HCH_
        have HI := HI_
        clear HI_
        have HB436 : Hid (Below w433.heap.size w433 w433) := Below.refl _ _
        refine s_val hM431 (.inl rfl) rfl rfl (ev_move (.inr rfl) rfl) (fun a438 hM437 => ?_)
        clear hM431
        refine seg_nil (hK430 _ _ ?_)
        clear hK430 K430 QK430
        have hM439 := hM437.cut2 (t1 := 6) (t2 := 7) rfl rfl
        clear hM437
        refine wp_ret ?_
        repeat (with_reducible first | refine th_r ?_ | refine inb_r ?_ | refine js_r ?_)
        refine ret_ct (p := 6) (t := 7) rfl hM439 rfl rfl (KD.out.on HB436.out) Try.underlying42 rfl (by rw [HD.out]; exact Try.infoMsg) ?_
        have hP := put_none (L := L) HRAW.out
        exact ⟨_, u, G1, G2, rfl, by rw [hP.1]; exact HD, by rw [hP.1]; exact hide (((HI.out.below HB436.out)).to (fun b h => .inl (by rw [FK, HKD.out]; exact h.imp id (fun h => Or.inr h)))), by rw [hP.2]; exact hide (HT.out.below HB436.out), hide (fun b h => .inl h), hide (HCH.out.below HB436.out), HUC⟩
    case neg =>
      by_cases hk4 : x.k = 4
      case pos =>
        have HRAW := raw_4 hk4
        have HK0 := hide hk4
        clear hk1 hk3 hk4
        obtain ⟨q, HFM⟩ : ∃ q, Hid ((formH 16 x.h) = q) := ⟨_, rfl⟩
        rw [HFM.out] at HRAW
        cases q
        case true =>
          simp only [Bool.false_eq_true, if_false, if_true] at HRAW
          have HRAW := hide HRAW
          obtain ⟨HH, HHH⟩ : ∃ C : Array Value, Hid (C = hdC x v) := ⟨_, rfl⟩
          have HRHH : Hid (Rng w41 g4 7 HH) := (((KB8.out.on HB52.out)).rng).sub 7 (sub_hd HC.out HHH.out)
          have HB441 : Hid (Below w41.heap.size w41 w41) := Below.refl _ _
          refine region_then fun K442 QK442 hK442 => ?_
          refine s_val hM68 (.inl rfl) rfl rfl (ev_bin rfl rfl rfl g_int (b_eql (b := false) (by have := HK0.out; simp [this]))) (fun a444 hM443 => ?_)
          clear hM68
          refine s_val hM443 (.inl rfl) rfl rfl (ev_move (.inr rfl) rfl) (fun a446 hM445 => ?_)
          clear hM443
          refine seg_nil (hK442 _ _ ?_)
          clear hK442 K442 QK442
          have hM447 := hM445.cut8 (t1 := 0) (t2 := 1) (t3 := 5) (t4 := 6) (t5 := 8) (t6 := 9) (t7 := 15) (t8 := 16) rfl rfl rfl rfl rfl rfl rfl rfl
          clear hM445
          refine wp_cond_false (hM447.ev (t := 16) rfl) ?_
          refine region_last fun K448 QK448 hK448 => ?_
          refine s_val hM447 (.inl rfl) rfl rfl (ev_bin rfl rfl rfl g_int (b_eql (b := false) (by have := HK0.out; simp [this]))) (fun a450 hM449 => ?_)
          clear hM447
          refine s_val hM449 (.inl rfl) rfl rfl (ev_move (.inr rfl) rfl) (fun a452 hM451 => ?_)
          clear hM449
          refine seg_nil (hK448 _ _ ?_)
          clear hK448 K448 QK448
          have hM453 := hM451.cut8 (t1 := 0) (t2 := 1) (t3 := 5) (t4 := 6) (t5 := 8) (t6 := 9) (t7 := 15) (t8 := 16) rfl rfl rfl rfl rfl rfl rfl rfl
          clear hM451
          refine hK69 _ _ ?_
          refine wp_cond_false (hM453.ev (t := 16) rfl) ?_
          refine region_then fun K454 QK454 hK454 => ?_
          refine s_val hM453 (.inl rfl) rfl rfl (ev_bin rfl rfl rfl g_int (b_eql (b := true) (decide_eq_true HK0.out))) (fun a456 hM455 => ?_)
          clear hM453
          refine s_val hM455 (.inl rfl) rfl rfl (ev_move (.inr rfl) rfl) (fun a458 hM457 => ?_)
          clear hM455
          refine seg_nil (hK454 _ _ ?_)
          clear hK454 K454 QK454
          have hM459 := hM457.cut8 (t1 := 0) (t2 := 1) (t3 := 5) (t4 := 6) (t5 := 8) (t6 := 9) (t7 := 15) (t8 := 25) rfl rfl rfl rfl rfl rfl rfl rfl
          clear hM457
          refine wp_cond_true (hM459.ev (t := 25) rfl) ?_
          refine region_then fun K460 QK460 hK460 => ?_
          refine s_val hM459 (.inl rfl) rfl rfl (ev_fldw (m := 7) rfl rfl (fun w => by simp [go_sem])) (fun a462 hM461 => ?_)
          clear hM459
          refine s_val hM461 (.inl rfl) rfl rfl (ev_loadm rfl rfl (HRHH.out.below HB441.out) Try.underlying38 rfl (by rw [HHH.out]; exact info_hdr)) (fun a464 hM463 => ?_)
          clear hM461
          refine s_call hM463 (.inl rfl) rfl rfl (f := 40) (args := #[.agg HH]) (ev_call hM463 rfl rfl rfl (fun w => by simp [go_sem]) _) (by rw [HHH.out]; exact ref4_Wide x.h _ ((HS.out.below HB51.out)).hb ((HS.out.below HB51.out)).hp HZ.out.hb HZ.out.hp HFM) (fun e w465 hp => ?_)
          obtain ⟨rfl, hb466⟩ := hp
          refine ⟨_, rfl, fun a468 hM467 => ?_⟩
          clear hM463
          have HB469 := hide (below_then HB51.out hb466)
          have HB470 := hide (below_then HB52.out hb466)
          have HB471 := hide (below_then HB53.out hb466)
          have HB472 := hide (below_then HB54.out hb466)
          have HB473 := hide (below_then HB56.out hb466)
          have HB474 := hide (below_then HB441.out hb466)
          clear hb466 HB51 HB52 HB53 HB54 HB56 HB441
          refine seg_nil (hK460 _ _ ?_)
          clear hK460 K460 QK460
          have hM475 := hM467.cut7 (t1 := 0) (t2 := 1) (t3 := 5) (t4 := 6) (t5 := 8) (t6 := 9) (t7 := 29) rfl rfl rfl rfl rfl rfl rfl
          clear hM467
          refine wp_cond_true (hM475.ev (t := 29) rfl) ?_
          refine region_last fun K476 QK476 hK476 => ?_
          refine s_val hM475 (.inl rfl) rfl rfl (ev_fldw (m := 7) rfl rfl (fun w => by simp [go_sem])) (fun a478 hM477 => ?_)
          clear hM475
          refine s_val hM477 (.inl rfl) rfl rfl (ev_loadm rfl rfl (HRHH.out.below HB474.out) Try.underlying38 rfl (by rw [HHH.out]; exact info_hdr)) (fun a480 hM479 => ?_)
          clear hM477
          refine s_call hM479 (.inl rfl) rfl rfl (f := 31) (args := #[.agg HH]) (ev_call hM479 rfl rfl rfl (fun w => by simp [go_sem]) _) (by rw [HHH.out]; exact ref4_HeaderBytes x.h _ ((HS.out.below HB469.out)).hb ((HS.out.below HB469.out)).hp HFM) (fun e w481 hp => ?_)
          obtain ⟨v', rfl, ho, hb482⟩ := hp
          obtain ⟨gy, cH, rfl, -, -⟩ := ho.form (by exact putB_pos _)
          have HLY := hide (Nat.le_trans HB469.out.size (ho.lt gy rfl).1)
          have HY := hide (Sl.of_own ho)
          clear ho
          have HLEN : Hid ((headerB x.h).length ≤ 1048576) := by rw [Hid]; have := headerB_le HFM.out; omega
          refine ⟨_, rfl, fun a484 hM483 => ?_⟩
          clear hM479
          have HB485 := hide (below_then HB469.out hb482)
          have HB486 := hide (below_then HB470.out hb482)
          have HB487 := hide (below_then HB471.out hb482)
          have HB488 := hide (below_then HB472.out hb482)
          have HB489 := hide (below_then HB473.out hb482)
          have HB490 := hide (below_then HB474.out hb482)
          clear hb482 HB469 HB470 HB471 HB472 HB473 HB474
          have HB492 : Hid (Below w481.heap.size w481 w481) := Below.refl _ _
          refine s_val hM483 (.inl rfl) rfl rfl (ev_move (.inr rfl) rfl) (fun a494 hM493 => ?_)
          clear hM483
          refine seg_nil (hK476 _ _ ?_)
          clear hK476 K476 QK476
          have hM495 := hM493.cut6 (t1 := 0) (t2 := 1) (t3 := 5) (t4 := 6) (t5 := 8) (t6 := 9) rfl rfl rfl rfl rfl rfl
          clear hM493
          refine inb_n ?_
          refine hK62 _ _ ?_
          refine wp_seq_k fun K496 hK496 => ?_
          refine region_then fun K497 QK497 hK497 => ?_
          refine s_val hM495 (.inl rfl) rfl rfl (ev_move (.inl rfl) rfl) (fun a499 hM498 => ?_)
          clear hM495
          refine s_val hM498 (.inl rfl) rfl rfl (ev_bin (v := .bool false) rfl rfl rfl g_slice (fun w => Lib.run_eql_slice_nil w _ _ _ _ _ 0 0 Try.underlying60)) (fun a501 hM500 => ?_)
          clear hM498
          refine seg_nil (hK497 _ _ ?_)
          clear hK497 K497 QK497
          have hM502 := hM500.cut7 (t1 := 0) (t2 := 1) (t3 := 5) (t4 := 6) (t5 := 8) (t6 := 9) (t7 := 44) rfl rfl rfl rfl rfl rfl rfl
          clear hM500
          refine wp_cond_false (hM502.ev (t := 44) rfl) ?_
          refine wp_skip ?_
          refine hK496 _ _ ?_
          refine region_then fun K503 QK503 hK503 => ?_
          refine s_val hM502 (.inl rfl) rfl rfl (ev_move (.inl rfl) rfl) (fun a505 hM504 => ?_)
          clear hM502
          refine s_val hM504 (.inl rfl) rfl rfl (ev_move (.inl rfl) rfl) (fun a507 hM506 => ?_)
          clear hM504
          obtain ⟨dd, HDD⟩ : ∃ d, Hid (digN L (headerB x.h) = d) := ⟨_, rfl⟩
          obtain ⟨L2, HL2⟩ : ∃ l, Hid (addL L (headerB x.h) = l) := ⟨_, rfl⟩
          refine s_call hM506 (.inl rfl) rfl rfl (f := 30) (args := #[.pointer (some ⟨g, 0, none⟩), .slice ((some ⟨gy, 0, none⟩)) ((headerB x.h).length) cH]) (ev_call hM506 rfl rfl rfl (fun w => by simp [go_sem]) _) (book_Digest (x := headerB x.h) _ ((HT.out.below HB485.out)).tw.bk (HY.out.below HB492.out) HLEN HN (hide (fun _ b off e h => by injection e with e; injection e with e1 _; have h1 := HF.out _ (.inl h); have h2 := HLY.out; omega)) HDD HL2) (fun e w508 hp => ?_)
          obtain ⟨rfl, hn⟩ := hp
          obtain ⟨G1b, hT, hG1⟩ := ((HT.out.below HB485.out)).tw.impl hn
          have hc : Chg (BkG G1 G2) w481 w508 := hn.chg.mono (fun b h => .inl (.inl h))
          have HG1 : Hid (∀ b, G1b b → G1 b ∨ w.heap.size ≤ b) := fun b h => (hG1 b h).imp id (fun h => Nat.le_trans ((HCH.out.below HB485.out)).size h)
          have HN1 : Hid (∀ q, K2 g14 g40 q → ¬ G1b q) := fun q hk h => (hG1 _ h).elim (fun h => by have h1 := HF.out _ (.inl h); have h2 := HKW.out q hk; omega) (fun h => by have h1 := K2.lt ((KB18.out.on HB487.out)).lt ((KB44.out.on HB489.out)).lt q hk; omega)
          have HT_ := hide (show TwK W0 G1b G2 w508 g r L2 sg L ps from hT)
          have HCH_ := hide (((HCH.out.below HB485.out)).trans hc (fun b h => .inl h))
          have HY_ := hide (((HY.out.below HB492.out)).chg1 hc (fun h => by have h1 := HF.out _ h; have h2 := HLY.out; omega))
          have HI_ := hide (((HI.out.below HB488.out)).step (F' := FK K G1b G2) (hn.chg.mono (fun b h => .inl (.inl (.inl h)))) (fun b h => h.map hG1 (fun _ => Or.inl)))
          have KB512 := hide (((KB8.out.on HB486.out)).chg hc (fun h => by have h1 := HF.out _ h; have h2 := LO5.out; omega))
          have KB513 := hide (((KB18.out.on HB487.out)).chg hc (fun h => by have h1 := HF.out _ h; have h2 := LO6.out; omega))
          have KB514 := hide (((KB44.out.on HB489.out)).chg hc (fun h => by have h1 := HF.out _ h; have h2 := LO8.out; omega))
          clear HB485 HB486 HB487 HB488 HB489 HB490 HB492 KB8 KB18 KB44 HT HCH HY HI hn hT hG1 hc
          have HT := HT_
          clear HT_
          have HCH := HCH_
          clear HCH_
          have HY := HY_
          clear HY_
          have HI := HI_
          clear HI_
          have HB516 : Hid (Below w508.heap.size w508 w508) := Below.refl _ _
          refine ⟨_, rfl, fun a511 hM510 => ?_⟩
          clear hM506
          refine s_val hM510 (.inl rfl) rfl rfl (ev_move (.inl rfl) rfl) (fun a518 hM517 => ?_)
          clear hM510
          refine s_val hM517 (.inl rfl) rfl rfl (ev_ext (v := .int .i64 dd) rfl rfl rfl) (fun a520 hM519 => ?_)
          clear hM517
          refine s_val hM519 (.inl rfl) rfl rfl (ev_ext (v := .int .i64 0) rfl rfl rfl) (fun a522 hM521 => ?_)
          clear hM519
          refine s_val hM521 (.inl rfl) rfl rfl (ev_move (.inr rfl) rfl) (fun a524 hM523 => ?_)
          clear hM521
          refine s_val hM523 (.inl rfl) rfl rfl (ev_move (.inr rfl) rfl) (fun a526 hM525 => ?_)
          clear hM523
          refine seg_nil (hK503 _ _ ?_)
          clear hK503 K503 QK503
          have hM527 := hM525.cut8 (t1 := 0) (t2 := 1) (t3 := 5) (t4 := 6) (t5 := 8) (t6 := 9) (t7 := 10) (t8 := 11) rfl rfl rfl rfl rfl rfl rfl rfl
          clear hM525
          refine wp_seq_k fun K528 hK528 => ?_
          refine region_then fun K529 QK529 hK529 => ?_
          refine s_val hM527 (.inl rfl) rfl rfl (ev_move (.inl rfl) rfl) (fun a531 hM530 => ?_)
          clear hM527
          refine s_call hM530 (.inl rfl) rfl rfl (f := 19) (args := #[.int .i64 0]) (ev_call hM530 rfl rfl rfl (fun w => by simp [go_sem]) _) (law8_num _ _) (fun e w532 hp => ?_)
          obtain ⟨rfl, rfl⟩ := hp
          refine ⟨_, rfl, fun a535 hM534 => ?_⟩
          clear hM530
          refine s_val hM534 (.inl rfl) rfl rfl (ev_bin rfl rfl rfl g_int (b_neq (b := false) (by decide))) (fun a537 hM536 => ?_)
          clear hM534
          refine s_val hM536 (.inl rfl) rfl rfl (ev_move (.inl rfl) rfl) (fun a539 hM538 => ?_)
          clear hM536
          refine s_val hM538 (.inr ⟨_, _, _, rfl, rfl, rfl⟩) rfl rfl (ev_move (.inl rfl) rfl) (fun a541 hM540 => ?_)
          clear hM538
          refine s_val hM540 (.inr ⟨_, _, _, rfl, rfl, rfl⟩) rfl rfl (ev_move (.inl rfl) rfl) (fun a543 hM542 => ?_)
          clear hM540
          refine s_val hM542 (.inr ⟨_, _, _, rfl, rfl, rfl⟩) rfl rfl (ev_move (.inl rfl) rfl) (fun a545 hM544 => ?_)
          clear hM542
          refine s_call hM544 (.inr ⟨_, _, _, rfl, rfl, rfl⟩) rfl rfl (f := 41) (args := #[.pointer (some ⟨r, 0, none⟩), .slice ((some ⟨gy, 0, none⟩)) ((headerB x.h).length) cH]) (ev_call hM544 rfl rfl rfl (fun w => by simp [go_sem]) _) (ref5_Digest (x := headerB x.h) _ ((HT.out.below HB516.out)).tw.rf (HY.out.below HB516.out) HLEN HN HDD HL2) (fun e w546 hp => ?_)
          obtain ⟨rfl, hn⟩ := hp
          obtain ⟨G2b, hT, hG2⟩ := ((HT.out.below HB516.out)).tw.ref hn
          have hc : Chg (BkG G1 G2) w508 w546 := hn.chg.mono (fun b h => .inl (.inr h))
          have HG2 : Hid (∀ b, G2b b → G2 b ∨ w.heap.size ≤ b) := fun b h => (hG2 b h).imp id (fun h => Nat.le_trans ((HCH.out.below HB516.out)).size h)
          have HN2 : Hid (∀ q, K2 g14 g40 q → ¬ G2b q) := fun q hk h => (hG2 _ h).elim (fun h => by have h1 := HF.out _ (.inr h); have h2 := HKW.out q hk; omega) (fun h => by have h1 := K2.lt ((KB513.out.on HB516.out)).lt ((KB514.out.on HB516.out)).lt q hk; omega)
          have HT_ := hide (show TwK W0 G1b G2b w546 g r L2 sg L2 ps from hT)
          have HCH_ := hide (((HCH.out.below HB516.out)).trans hc (fun b h => .inl h))
          have HI_ := hide (((HI.out.below HB516.out)).step (F' := FK K G1b G2b) (hn.chg.mono (fun b h => .inl (.inl (.inr h)))) (fun b h => h.map (fun _ => Or.inl) hG2))
          have KB550 := hide (((KB512.out.on HB516.out)).chg hc (fun h => by have h1 := HF.out _ h; have h2 := LO5.out; omega))
          have KB551 := hide (((KB513.out.on HB516.out)).chg hc (fun h => by have h1 := HF.out _ h; have h2 := LO6.out; omega))
          have KB552 := hide (((KB514.out.on HB516.out)).chg hc (fun h => by have h1 := HF.out _ h; have h2 := LO8.out; omega))
          clear HB516 KB512 KB513 KB514 HT HCH HI hn hT hG2 hc HY
          have HT := HT_
          clear HT_
          have HCH := HCH_
          clear HCH_
          have HI := HI_
          clear HI_
          have HB554 : Hid (Below w546.heap.size w546 w546) := Below.refl _ _
          refine ⟨_, rfl, fun a549 hM548 => ?_⟩
          clear hM544
          refine s_val hM548 (.inr ⟨_, _, _, rfl, rfl, rfl⟩) rfl rfl (ev_bin rfl rfl rfl g_int (b_neq (b := false) (by simp))) (fun a556 hM555 => ?_)
          clear hM548
          refine s_val hM555 (.inl rfl) rfl rfl (ev_pick rfl rfl rfl) (fun a558 hM557 => ?_)
          clear hM555
          refine seg_nil (hK529 _ _ ?_)
          clear hK529 K529 QK529
          have hM559 := hM557.cut7 (t1 := 0) (t2 := 1) (t3 := 5) (t4 := 6) (t5 := 8) (t6 := 10) (t7 := 61) rfl rfl rfl rfl rfl rfl rfl
          clear hM557
          refine wp_cond_false (hM559.ev (t := 61) rfl) ?_
          refine wp_skip ?_
          refine hK528 _ _ ?_
          refine wp_seq_k fun K560 hK560 => ?_
          refine region_then fun K561 QK561 hK561 => ?_
          refine s_val hM559 (.inl rfl) rfl rfl (ev_fldw (m := 0) rfl rfl (fun w => by simp [go_sem])) (fun a563 hM562 => ?_)
          clear hM559
          refine s_val hM562 (.inl rfl) rfl rfl (ev_load1 (v := .int .i64 (x.k)) rfl rfl ((KB550.out.on HB554.out).rng.at_ (m := 0) (by rw [HC.out]; rfl)) (isAgg_no Try.underlying3 rfl)) (fun a565 hM564 => ?_)
          clear hM562
          refine s_val hM564 (.inl rfl) rfl rfl (ev_bin rfl rfl rfl g_int (b_eql (b := false) (by have := HK0.out; simp [this]))) (fun a567 hM566 => ?_)
          clear hM564
          refine seg_nil (hK561 _ _ ?_)
          clear hK561 K561 QK561
          have hM568 := hM566.cut7 (t1 := 0) (t2 := 1) (t3 := 5) (t4 := 6) (t5 := 8) (t6 := 10) (t7 := 65) rfl rfl rfl rfl rfl rfl rfl
          clear hM566
          refine wp_cond_false (hM568.ev (t := 65) rfl) ?_
          refine region_last fun K569 QK569 hK569 => ?_
          refine s_val hM568 (.inl rfl) rfl rfl (ev_move (.inl rfl) rfl) (fun a571 hM570 => ?_)
          clear hM568
          refine s_val hM570 (.inl rfl) rfl rfl (ev_fldw (m := 3) rfl rfl (fun w => by simp [go_sem])) (fun a573 hM572 => ?_)
          clear hM570
          refine s_put hM572 rfl rfl rfl rfl rfl (KB552.out.on HB554.out) (by rw [HD.out, msC_sz]; decide) (st_int Try.underlying3 (by kernel_rfl)) (fun w574 kd hg => ?_)
          obtain ⟨D2, HD2⟩ : ∃ D2 : Array Value, Hid (D2 = msC { x with d := dd } u) := ⟨_, rfl⟩
          have KD : Hid (Blk w574 g40 42 D2) := by have h := kd; rw [HD.out, set_d] at h; rw [HD2.out]; exact h
          clear kd
          have HT_ := hide (((HT.out.below HB554.out)).store hg (fun h => h.elim (HN1.out _ K2.r) (HN2.out _ K2.r)) (Nat.le_trans H0.out LO8.out))
          have HCH_ := hide (((HCH.out.below HB554.out)).trans (grown_chg hg) (fun b e => .inr (by subst e; exact LO8.out)))
          have HI_ := hide ((((HI.out.below HB554.out)).store hg K8.out).d dd)
          have KB575 := hide (((KB551.out.on HB554.out)).chg (grown_chg hg) HNE.out)
          clear HB554 KB551 KB552 HT HCH HI hg
          have HT := HT_
          clear HT_
          have HCH := HCH_
          clear HCH_
          have HI := HI_
          clear HI_
          have HB578 : Hid (Below w574.heap.size w574 w574) := Below.refl _ _
          refine seg_nil (hK569 _ _ ?_)
          clear hK569 K569 QK569
          have hM579 := hM572.cut5 (t1 := 0) (t2 := 1) (t3 := 5) (t4 := 6) (t5 := 8) rfl rfl rfl rfl rfl
          clear hM572
          refine hK560 _ _ ?_
          refine region_then fun K580 QK580 hK580 => ?_
          refine s_val hM579 (.inl rfl) rfl rfl (ev_loadm rfl rfl (KD.out.on HB578.out).rng Try.underlying42 rfl (by rw [HD2.out]; exact Try.infoMsg)) (fun a582 hM581 => ?_)
          clear hM579
          refine s_putrow hM581 rfl rfl rfl rfl rfl (KB575.out.on HB578.out) (by rw [HD2.out]; exact Try.infoMsg) (by rw [HD2.out]; rfl) (one_msg HD2.out) (fun w583 kd hg => ?_)
          have KD := hide kd
          clear kd
          have HT_ := hide (((HT.out.below HB578.out)).store hg (fun h => h.elim (HN1.out _ K2.l) (HN2.out _ K2.l)) (Nat.le_trans H0.out LO6.out))
          have HCH_ := hide (((HCH.out.below HB578.out)).trans (grown_chg hg) (fun b e => .inr (by subst e; exact LO6.out)))
          have HI_ := hide (((HI.out.below HB578.out)).store hg K6.out)
          clear HB578 KB575 HT HCH HI hg
          have HT := HT_
          clear HT_
          have HCH := HCH_
          clear HCH_
          have HI := HI_
          clear HI_
          have HB586 : Hid (Below w583.heap.size w583 w583) := Below.refl _ _
          refine s_val hM581 (.inl rfl) rfl rfl (ev_move (.inr rfl) rfl) (fun a588 hM587 => ?_)
          clear hM581
          refine seg_nil (hK580 _ _ ?_)
          clear hK580 K580 QK580
          have hM589 := hM587.cut2 (t1 := 6) (t2 := 7) rfl rfl
          clear hM587
          refine wp_ret ?_
          repeat (with_reducible first | refine th_r ?_ | refine inb_r ?_ | refine js_r ?_)
          refine ret_ct (p := 6) (t := 7) rfl hM589 rfl rfl (KD.out.on HB586.out) Try.underlying42 rfl (by rw [HD2.out]; exact Try.infoMsg) ?_
          have hP := put_d (L := L) HRAW.out (by have := HK0.out; omega)
          rw [HDD.out, HL2.out] at hP
          exact ⟨_, u, G1b, G2b, rfl, by rw [hP.1]; exact HD2, by rw [hP.1]; exact hide (((HI.out.below HB586.out)).to (fun b h => .inl (by rw [FK, HKD.out]; exact h.imp id (fun h => Or.inr h)))), by rw [hP.2]; exact hide (HT.out.below HB586.out), hide (fun b h => h.elim (fun h => (HG1.out b h).imp .inl id) (fun h => (HG2.out b h).imp .inr id)), hide (HCH.out.below HB586.out), HUC⟩
        case false =>
          simp only [Bool.false_eq_true, if_false, if_true] at HRAW
          have HRAW := hide HRAW
          obtain ⟨HH, HHH⟩ : ∃ C : Array Value, Hid (C = hdC x v) := ⟨_, rfl⟩
          have HRHH : Hid (Rng w41 g4 7 HH) := (((KB8.out.on HB52.out)).rng).sub 7 (sub_hd HC.out HHH.out)
          have HB591 : Hid (Below w41.heap.size w41 w41) := Below.refl _ _
          refine region_then fun K592 QK592 hK592 => ?_
          refine s_val hM68 (.inl rfl) rfl rfl (ev_bin rfl rfl rfl g_int (b_eql (b := false) (by have := HK0.out; simp [this]))) (fun a594 hM593 => ?_)
          clear hM68
          refine s_val hM593 (.inl rfl) rfl rfl (ev_move (.inr rfl) rfl) (fun a596 hM595 => ?_)
          clear hM593
          refine seg_nil (hK592 _ _ ?_)
          clear hK592 K592 QK592
          have hM597 := hM595.cut8 (t1 := 0) (t2 := 1) (t3 := 5) (t4 := 6) (t5 := 8) (t6 := 9) (t7 := 15) (t8 := 16) rfl rfl rfl rfl rfl rfl rfl rfl
          clear hM595
          refine wp_cond_false (hM597.ev (t := 16) rfl) ?_
          refine region_last fun K598 QK598 hK598 => ?_
          refine s_val hM597 (.inl rfl) rfl rfl (ev_bin rfl rfl rfl g_int (b_eql (b := false) (by have := HK0.out; simp [this]))) (fun a600 hM599 => ?_)
          clear hM597
          refine s_val hM599 (.inl rfl) rfl rfl (ev_move (.inr rfl) rfl) (fun a602 hM601 => ?_)
          clear hM599
          refine seg_nil (hK598 _ _ ?_)
          clear hK598 K598 QK598
          have hM603 := hM601.cut8 (t1 := 0) (t2 := 1) (t3 := 5) (t4 := 6) (t5 := 8) (t6 := 9) (t7 := 15) (t8 := 16) rfl rfl rfl rfl rfl rfl rfl rfl
          clear hM601
          refine hK69 _ _ ?_
          refine wp_cond_false (hM603.ev (t := 16) rfl) ?_
          refine region_then fun K604 QK604 hK604 => ?_
          refine s_val hM603 (.inl rfl) rfl rfl (ev_bin rfl rfl rfl g_int (b_eql (b := true) (decide_eq_true HK0.out))) (fun a606 hM605 => ?_)
          clear hM603
          refine s_val hM605 (.inl rfl) rfl rfl (ev_move (.inr rfl) rfl) (fun a608 hM607 => ?_)
          clear hM605
          refine seg_nil (hK604 _ _ ?_)
          clear hK604 K604 QK604
          have hM609 := hM607.cut8 (t1 := 0) (t2 := 1) (t3 := 5) (t4 := 6) (t5 := 8) (t6 := 9) (t7 := 15) (t8 := 25) rfl rfl rfl rfl rfl rfl rfl rfl
          clear hM607
          refine wp_cond_true (hM609.ev (t := 25) rfl) ?_
          refine region_then fun K610 QK610 hK610 => ?_
          refine s_val hM609 (.inl rfl) rfl rfl (ev_fldw (m := 7) rfl rfl (fun w => by simp [go_sem])) (fun a612 hM611 => ?_)
          clear hM609
          refine s_val hM611 (.inl rfl) rfl rfl (ev_loadm rfl rfl (HRHH.out.below HB591.out) Try.underlying38 rfl (by rw [HHH.out]; exact info_hdr)) (fun a614 hM613 => ?_)
          clear hM611
          refine s_call hM613 (.inl rfl) rfl rfl (f := 40) (args := #[.agg HH]) (ev_call hM613 rfl rfl rfl (fun w => by simp [go_sem]) _) (by rw [HHH.out]; exact ref4_Wide x.h _ ((HS.out.below HB51.out)).hb ((HS.out.below HB51.out)).hp HZ.out.hb HZ.out.hp HFM) (fun e w615 hp => ?_)
          obtain ⟨rfl, hb616⟩ := hp
          refine ⟨_, rfl, fun a618 hM617 => ?_⟩
          clear hM613
          have HB619 := hide (below_then HB51.out hb616)
          have HB620 := hide (below_then HB52.out hb616)
          have HB621 := hide (below_then HB53.out hb616)
          have HB622 := hide (below_then HB54.out hb616)
          have HB623 := hide (below_then HB56.out hb616)
          have HB624 := hide (below_then HB591.out hb616)
          clear hb616 HB51 HB52 HB53 HB54 HB56 HB591
          refine seg_nil (hK610 _ _ ?_)
          clear hK610 K610 QK610
          have hM625 := hM617.cut7 (t1 := 0) (t2 := 1) (t3 := 5) (t4 := 6) (t5 := 8) (t6 := 9) (t7 := 29) rfl rfl rfl rfl rfl rfl rfl
          clear hM617
          refine wp_cond_false (hM625.ev (t := 29) rfl) ?_
          refine wp_skip ?_
          refine inb_n ?_
          refine hK62 _ _ ?_
          refine wp_seq_k fun K626 hK626 => ?_
          refine region_then fun K627 QK627 hK627 => ?_
          refine s_val hM625 (.inl rfl) rfl rfl (ev_move (.inl rfl) rfl) (fun a629 hM628 => ?_)
          clear hM625
          refine s_val hM628 (.inl rfl) rfl rfl (ev_bin (v := .bool true) rfl rfl rfl g_slice (fun w => Lib.run_eql_slice_nil w _ _ _ _ _ 0 0 Try.underlying60)) (fun a631 hM630 => ?_)
          clear hM628
          refine seg_nil (hK627 _ _ ?_)
          clear hK627 K627 QK627
          have hM632 := hM630.cut7 (t1 := 0) (t2 := 1) (t3 := 5) (t4 := 6) (t5 := 8) (t6 := 9) (t7 := 44) rfl rfl rfl rfl rfl rfl rfl
          clear hM630
          refine wp_cond_true (hM632.ev (t := 44) rfl) ?_
          refine region_then fun K633 QK633 hK633 => ?_
          refine s_val hM632 (.inl rfl) rfl rfl (ev_loadm rfl rfl (KB44.out.on HB623.out).rng Try.underlying42 rfl (by rw [HD.out]; exact Try.infoMsg)) (fun a635 hM634 => ?_)
          clear hM632
          refine s_putrow hM634 rfl rfl rfl rfl rfl (KB18.out.on HB621.out) (by rw [HD.out]; exact Try.infoMsg) (by rw [HD.out]; rfl) (one_msg HD.out) (fun w636 kd hg => ?_)
          have KD := hide kd
          clear kd
          have HT_ := hide (((HT.out.below HB619.out)).store hg (fun h => by have h1 := HF.out _ h; have h2 := LO6.out; omega) (Nat.le_trans H0.out LO6.out))
          have HCH_ := hide (((HCH.out.below HB619.out)).trans (grown_chg hg) (fun b e => .inr (by subst e; exact LO6.out)))
          have HI_ := hide (((HI.out.below HB622.out)).store hg K6.out)
          clear HB619 HB620 HB621 HB622 HB623 HB624 KB18 HT HCH HI hg
          have HT := HT_
          clear HT_
          have HCH := HCH_
          clear HCH_
          have HI := HI_
          clear HI_
          have HB639 : Hid (Below w636.heap.size w636 w636) := Below.refl _ _
          refine s_val hM634 (.inl rfl) rfl rfl (ev_move (.inr rfl) rfl) (fun a641 hM640 => ?_)
          clear hM634
          refine seg_nil (hK633 _ _ ?_)
          clear hK633 K633 QK633
          have hM642 := hM640.cut2 (t1 := 6) (t2 := 7) rfl rfl
          clear hM640
          refine wp_ret ?_
          repeat (with_reducible first | refine th_r ?_ | refine inb_r ?_ | refine js_r ?_)
          refine ret_ct (p := 6) (t := 7) rfl hM642 rfl rfl (KD.out.on HB639.out) Try.underlying42 rfl (by rw [HD.out]; exact Try.infoMsg) ?_
          have hP := put_none (L := L) HRAW.out
          exact ⟨_, u, G1, G2, rfl, by rw [hP.1]; exact HD, by rw [hP.1]; exact hide (((HI.out.below HB639.out)).to (fun b h => .inl (by rw [FK, HKD.out]; exact h.imp id (fun h => Or.inr h)))), by rw [hP.2]; exact hide (HT.out.below HB639.out), hide (fun b h => .inl h), hide (HCH.out.below HB639.out), HUC⟩
      case neg =>
        by_cases hk6 : x.k = 6
        case pos =>
          have HRAW := raw_6 hk6
          have HK0 := hide hk6
          clear hk1 hk3 hk4 hk6
          obtain ⟨q, HFM⟩ : ∃ q, Hid ((formH 16 x.c.h) = q) := ⟨_, rfl⟩
          rw [HFM.out] at HRAW
          cases q
          case true =>
            simp only [Bool.false_eq_true, if_false, if_true] at HRAW
            have HRAW := hide HRAW
            obtain ⟨CHD, HCHD⟩ : ∃ C : Array Value, Hid (C = chC x v) := ⟨_, rfl⟩
            have HRCHD : Hid (Rng w41 g4 11 CHD) := (((KB8.out.on HB52.out)).rng).sub 11 (sub_ch2 HC.out HCHD.out)
            have HB644 : Hid (Below w41.heap.size w41 w41) := Below.refl _ _
            refine region_then fun K645 QK645 hK645 => ?_
            refine s_val hM68 (.inl rfl) rfl rfl (ev_bin rfl rfl rfl g_int (b_eql (b := false) (by have := HK0.out; simp [this]))) (fun a647 hM646 => ?_)
            clear hM68
            refine s_val hM646 (.inl rfl) rfl rfl (ev_move (.inr rfl) rfl) (fun a649 hM648 => ?_)
            clear hM646
            refine seg_nil (hK645 _ _ ?_)
            clear hK645 K645 QK645
            have hM650 := hM648.cut8 (t1 := 0) (t2 := 1) (t3 := 5) (t4 := 6) (t5 := 8) (t6 := 9) (t7 := 15) (t8 := 16) rfl rfl rfl rfl rfl rfl rfl rfl
            clear hM648
            refine wp_cond_false (hM650.ev (t := 16) rfl) ?_
            refine region_last fun K651 QK651 hK651 => ?_
            refine s_val hM650 (.inl rfl) rfl rfl (ev_bin rfl rfl rfl g_int (b_eql (b := false) (by have := HK0.out; simp [this]))) (fun a653 hM652 => ?_)
            clear hM650
            refine s_val hM652 (.inl rfl) rfl rfl (ev_move (.inr rfl) rfl) (fun a655 hM654 => ?_)
            clear hM652
            refine seg_nil (hK651 _ _ ?_)
            clear hK651 K651 QK651
            have hM656 := hM654.cut8 (t1 := 0) (t2 := 1) (t3 := 5) (t4 := 6) (t5 := 8) (t6 := 9) (t7 := 15) (t8 := 16) rfl rfl rfl rfl rfl rfl rfl rfl
            clear hM654
            refine hK69 _ _ ?_
            refine wp_cond_false (hM656.ev (t := 16) rfl) ?_
            refine region_then fun K657 QK657 hK657 => ?_
            refine s_val hM656 (.inl rfl) rfl rfl (ev_bin rfl rfl rfl g_int (b_eql (b := false) (by have := HK0.out; simp [this]))) (fun a659 hM658 => ?_)
            clear hM656
            refine s_val hM658 (.inl rfl) rfl rfl (ev_move (.inr rfl) rfl) (fun a661 hM660 => ?_)
            clear hM658
            refine seg_nil (hK657 _ _ ?_)
            clear hK657 K657 QK657
            have hM662 := hM660.cut8 (t1 := 0) (t2 := 1) (t3 := 5) (t4 := 6) (t5 := 8) (t6 := 9) (t7 := 15) (t8 := 25) rfl rfl rfl rfl rfl rfl rfl rfl
            clear hM660
            refine wp_cond_false (hM662.ev (t := 25) rfl) ?_
            refine region_then fun K663 QK663 hK663 => ?_
            refine s_val hM662 (.inl rfl) rfl rfl (ev_bin rfl rfl rfl g_int (b_eql (b := true) (decide_eq_true HK0.out))) (fun a665 hM664 => ?_)
            clear hM662
            refine s_val hM664 (.inl rfl) rfl rfl (ev_move (.inr rfl) rfl) (fun a667 hM666 => ?_)
            clear hM664
            refine seg_nil (hK663 _ _ ?_)
            clear hK663 K663 QK663
            have hM668 := hM666.cut8 (t1 := 0) (t2 := 1) (t3 := 5) (t4 := 6) (t5 := 8) (t6 := 9) (t7 := 15) (t8 := 33) rfl rfl rfl rfl rfl rfl rfl rfl
            clear hM666
            refine wp_cond_true (hM668.ev (t := 33) rfl) ?_
            refine region_then fun K669 QK669 hK669 => ?_
            refine s_val hM668 (.inl rfl) rfl rfl (ev_fldw (m := 11) rfl rfl (fun w => by simp [go_sem])) (fun a671 hM670 => ?_)
            clear hM668
            refine s_val hM670 (.inl rfl) rfl rfl (ev_fldw (m := 11) rfl rfl (fun w => by simp [go_sem])) (fun a673 hM672 => ?_)
            clear hM670
            refine s_val hM672 (.inl rfl) rfl rfl (ev_loadm rfl rfl (HRCHD.out.below HB644.out) Try.underlying38 rfl (by rw [HCHD.out]; exact info_hdr)) (fun a675 hM674 => ?_)
            clear hM672
            refine s_call hM674 (.inl rfl) rfl rfl (f := 40) (args := #[.agg CHD]) (ev_call hM674 rfl rfl rfl (fun w => by simp [go_sem]) _) (by rw [HCHD.out]; exact ref4_Wide x.c.h _ ((HS.out.below HB51.out)).cb ((HS.out.below HB51.out)).cp HZ.out.cb HZ.out.cp HFM) (fun e w676 hp => ?_)
            obtain ⟨rfl, hb677⟩ := hp
            refine ⟨_, rfl, fun a679 hM678 => ?_⟩
            clear hM674
            have HB680 := hide (below_then HB51.out hb677)
            have HB681 := hide (below_then HB52.out hb677)
            have HB682 := hide (below_then HB53.out hb677)
            have HB683 := hide (below_then HB54.out hb677)
            have HB684 := hide (below_then HB56.out hb677)
            have HB685 := hide (below_then HB644.out hb677)
            clear hb677 HB51 HB52 HB53 HB54 HB56 HB644
            refine seg_nil (hK669 _ _ ?_)
            clear hK669 K669 QK669
            have hM686 := hM678.cut7 (t1 := 0) (t2 := 1) (t3 := 5) (t4 := 6) (t5 := 8) (t6 := 9) (t7 := 38) rfl rfl rfl rfl rfl rfl rfl
            clear hM678
            refine wp_cond_true (hM686.ev (t := 38) rfl) ?_
            refine region_last fun K687 QK687 hK687 => ?_
            refine s_val hM686 (.inl rfl) rfl rfl (ev_fldw (m := 11) rfl rfl (fun w => by simp [go_sem])) (fun a689 hM688 => ?_)
            clear hM686
            refine s_val hM688 (.inl rfl) rfl rfl (ev_fldw (m := 11) rfl rfl (fun w => by simp [go_sem])) (fun a691 hM690 => ?_)
            clear hM688
            refine s_val hM690 (.inl rfl) rfl rfl (ev_loadm rfl rfl (HRCHD.out.below HB685.out) Try.underlying38 rfl (by rw [HCHD.out]; exact info_hdr)) (fun a693 hM692 => ?_)
            clear hM690
            refine s_call hM692 (.inl rfl) rfl rfl (f := 31) (args := #[.agg CHD]) (ev_call hM692 rfl rfl rfl (fun w => by simp [go_sem]) _) (by rw [HCHD.out]; exact ref4_HeaderBytes x.c.h _ ((HS.out.below HB680.out)).cb ((HS.out.below HB680.out)).cp HFM) (fun e w694 hp => ?_)
            obtain ⟨v', rfl, ho, hb695⟩ := hp
            obtain ⟨gy, cH, rfl, -, -⟩ := ho.form (by exact putB_pos _)
            have HLY := hide (Nat.le_trans HB680.out.size (ho.lt gy rfl).1)
            have HY := hide (Sl.of_own ho)
            clear ho
            have HLEN : Hid ((headerB x.c.h).length ≤ 1048576) := by rw [Hid]; have := headerB_le HFM.out; omega
            refine ⟨_, rfl, fun a697 hM696 => ?_⟩
            clear hM692
            have HB698 := hide (below_then HB680.out hb695)
            have HB699 := hide (below_then HB681.out hb695)
            have HB700 := hide (below_then HB682.out hb695)
            have HB701 := hide (below_then HB683.out hb695)
            have HB702 := hide (below_then HB684.out hb695)
            have HB703 := hide (below_then HB685.out hb695)
            clear hb695 HB680 HB681 HB682 HB683 HB684 HB685
            have HB705 : Hid (Below w694.heap.size w694 w694) := Below.refl _ _
            refine s_val hM696 (.inl rfl) rfl rfl (ev_move (.inr rfl) rfl) (fun a707 hM706 => ?_)
            clear hM696
            refine seg_nil (hK687 _ _ ?_)
            clear hK687 K687 QK687
            have hM708 := hM706.cut6 (t1 := 0) (t2 := 1) (t3 := 5) (t4 := 6) (t5 := 8) (t6 := 9) rfl rfl rfl rfl rfl rfl
            clear hM706
            refine inb_n ?_
            refine hK62 _ _ ?_
            refine wp_seq_k fun K709 hK709 => ?_
            refine region_then fun K710 QK710 hK710 => ?_
            refine s_val hM708 (.inl rfl) rfl rfl (ev_move (.inl rfl) rfl) (fun a712 hM711 => ?_)
            clear hM708
            refine s_val hM711 (.inl rfl) rfl rfl (ev_bin (v := .bool false) rfl rfl rfl g_slice (fun w => Lib.run_eql_slice_nil w _ _ _ _ _ 0 0 Try.underlying60)) (fun a714 hM713 => ?_)
            clear hM711
            refine seg_nil (hK710 _ _ ?_)
            clear hK710 K710 QK710
            have hM715 := hM713.cut7 (t1 := 0) (t2 := 1) (t3 := 5) (t4 := 6) (t5 := 8) (t6 := 9) (t7 := 44) rfl rfl rfl rfl rfl rfl rfl
            clear hM713
            refine wp_cond_false (hM715.ev (t := 44) rfl) ?_
            refine wp_skip ?_
            refine hK709 _ _ ?_
            refine region_then fun K716 QK716 hK716 => ?_
            refine s_val hM715 (.inl rfl) rfl rfl (ev_move (.inl rfl) rfl) (fun a718 hM717 => ?_)
            clear hM715
            refine s_val hM717 (.inl rfl) rfl rfl (ev_move (.inl rfl) rfl) (fun a720 hM719 => ?_)
            clear hM717
            obtain ⟨dd, HDD⟩ : ∃ d, Hid (digN L (headerB x.c.h) = d) := ⟨_, rfl⟩
            obtain ⟨L2, HL2⟩ : ∃ l, Hid (addL L (headerB x.c.h) = l) := ⟨_, rfl⟩
            refine s_call hM719 (.inl rfl) rfl rfl (f := 30) (args := #[.pointer (some ⟨g, 0, none⟩), .slice ((some ⟨gy, 0, none⟩)) ((headerB x.c.h).length) cH]) (ev_call hM719 rfl rfl rfl (fun w => by simp [go_sem]) _) (book_Digest (x := headerB x.c.h) _ ((HT.out.below HB698.out)).tw.bk (HY.out.below HB705.out) HLEN HN (hide (fun _ b off e h => by injection e with e; injection e with e1 _; have h1 := HF.out _ (.inl h); have h2 := HLY.out; omega)) HDD HL2) (fun e w721 hp => ?_)
            obtain ⟨rfl, hn⟩ := hp
            obtain ⟨G1b, hT, hG1⟩ := ((HT.out.below HB698.out)).tw.impl hn
            have hc : Chg (BkG G1 G2) w694 w721 := hn.chg.mono (fun b h => .inl (.inl h))
            have HG1 : Hid (∀ b, G1b b → G1 b ∨ w.heap.size ≤ b) := fun b h => (hG1 b h).imp id (fun h => Nat.le_trans ((HCH.out.below HB698.out)).size h)
            have HN1 : Hid (∀ q, K2 g14 g40 q → ¬ G1b q) := fun q hk h => (hG1 _ h).elim (fun h => by have h1 := HF.out _ (.inl h); have h2 := HKW.out q hk; omega) (fun h => by have h1 := K2.lt ((KB18.out.on HB700.out)).lt ((KB44.out.on HB702.out)).lt q hk; omega)
            have HT_ := hide (show TwK W0 G1b G2 w721 g r L2 sg L ps from hT)
            have HCH_ := hide (((HCH.out.below HB698.out)).trans hc (fun b h => .inl h))
            have HY_ := hide (((HY.out.below HB705.out)).chg1 hc (fun h => by have h1 := HF.out _ h; have h2 := HLY.out; omega))
            have HI_ := hide (((HI.out.below HB701.out)).step (F' := FK K G1b G2) (hn.chg.mono (fun b h => .inl (.inl (.inl h)))) (fun b h => h.map hG1 (fun _ => Or.inl)))
            have KB725 := hide (((KB8.out.on HB699.out)).chg hc (fun h => by have h1 := HF.out _ h; have h2 := LO5.out; omega))
            have KB726 := hide (((KB18.out.on HB700.out)).chg hc (fun h => by have h1 := HF.out _ h; have h2 := LO6.out; omega))
            have KB727 := hide (((KB44.out.on HB702.out)).chg hc (fun h => by have h1 := HF.out _ h; have h2 := LO8.out; omega))
            clear HB698 HB699 HB700 HB701 HB702 HB703 HB705 KB8 KB18 KB44 HT HCH HY HI hn hT hG1 hc
            have HT := HT_
            clear HT_
            have HCH := HCH_
            clear HCH_
            have HY := HY_
            clear HY_
            have HI := HI_
            clear HI_
            have HB729 : Hid (Below w721.heap.size w721 w721) := Below.refl _ _
            refine ⟨_, rfl, fun a724 hM723 => ?_⟩
            clear hM719
            refine s_val hM723 (.inl rfl) rfl rfl (ev_move (.inl rfl) rfl) (fun a731 hM730 => ?_)
            clear hM723
            refine s_val hM730 (.inl rfl) rfl rfl (ev_ext (v := .int .i64 dd) rfl rfl rfl) (fun a733 hM732 => ?_)
            clear hM730
            refine s_val hM732 (.inl rfl) rfl rfl (ev_ext (v := .int .i64 0) rfl rfl rfl) (fun a735 hM734 => ?_)
            clear hM732
            refine s_val hM734 (.inl rfl) rfl rfl (ev_move (.inr rfl) rfl) (fun a737 hM736 => ?_)
            clear hM734
            refine s_val hM736 (.inl rfl) rfl rfl (ev_move (.inr rfl) rfl) (fun a739 hM738 => ?_)
            clear hM736
            refine seg_nil (hK716 _ _ ?_)
            clear hK716 K716 QK716
            have hM740 := hM738.cut8 (t1 := 0) (t2 := 1) (t3 := 5) (t4 := 6) (t5 := 8) (t6 := 9) (t7 := 10) (t8 := 11) rfl rfl rfl rfl rfl rfl rfl rfl
            clear hM738
            refine wp_seq_k fun K741 hK741 => ?_
            refine region_then fun K742 QK742 hK742 => ?_
            refine s_val hM740 (.inl rfl) rfl rfl (ev_move (.inl rfl) rfl) (fun a744 hM743 => ?_)
            clear hM740
            refine s_call hM743 (.inl rfl) rfl rfl (f := 19) (args := #[.int .i64 0]) (ev_call hM743 rfl rfl rfl (fun w => by simp [go_sem]) _) (law8_num _ _) (fun e w745 hp => ?_)
            obtain ⟨rfl, rfl⟩ := hp
            refine ⟨_, rfl, fun a748 hM747 => ?_⟩
            clear hM743
            refine s_val hM747 (.inl rfl) rfl rfl (ev_bin rfl rfl rfl g_int (b_neq (b := false) (by decide))) (fun a750 hM749 => ?_)
            clear hM747
            refine s_val hM749 (.inl rfl) rfl rfl (ev_move (.inl rfl) rfl) (fun a752 hM751 => ?_)
            clear hM749
            refine s_val hM751 (.inr ⟨_, _, _, rfl, rfl, rfl⟩) rfl rfl (ev_move (.inl rfl) rfl) (fun a754 hM753 => ?_)
            clear hM751
            refine s_val hM753 (.inr ⟨_, _, _, rfl, rfl, rfl⟩) rfl rfl (ev_move (.inl rfl) rfl) (fun a756 hM755 => ?_)
            clear hM753
            refine s_val hM755 (.inr ⟨_, _, _, rfl, rfl, rfl⟩) rfl rfl (ev_move (.inl rfl) rfl) (fun a758 hM757 => ?_)
            clear hM755
            refine s_call hM757 (.inr ⟨_, _, _, rfl, rfl, rfl⟩) rfl rfl (f := 41) (args := #[.pointer (some ⟨r, 0, none⟩), .slice ((some ⟨gy, 0, none⟩)) ((headerB x.c.h).length) cH]) (ev_call hM757 rfl rfl rfl (fun w => by simp [go_sem]) _) (ref5_Digest (x := headerB x.c.h) _ ((HT.out.below HB729.out)).tw.rf (HY.out.below HB729.out) HLEN HN HDD HL2) (fun e w759 hp => ?_)
            obtain ⟨rfl, hn⟩ := hp
            obtain ⟨G2b, hT, hG2⟩ := ((HT.out.below HB729.out)).tw.ref hn
            have hc : Chg (BkG G1 G2) w721 w759 := hn.chg.mono (fun b h => .inl (.inr h))
            have HG2 : Hid (∀ b, G2b b → G2 b ∨ w.heap.size ≤ b) := fun b h => (hG2 b h).imp id (fun h => Nat.le_trans ((HCH.out.below HB729.out)).size h)
            have HN2 : Hid (∀ q, K2 g14 g40 q → ¬ G2b q) := fun q hk h => (hG2 _ h).elim (fun h => by have h1 := HF.out _ (.inr h); have h2 := HKW.out q hk; omega) (fun h => by have h1 := K2.lt ((KB726.out.on HB729.out)).lt ((KB727.out.on HB729.out)).lt q hk; omega)
            have HT_ := hide (show TwK W0 G1b G2b w759 g r L2 sg L2 ps from hT)
            have HCH_ := hide (((HCH.out.below HB729.out)).trans hc (fun b h => .inl h))
            have HI_ := hide (((HI.out.below HB729.out)).step (F' := FK K G1b G2b) (hn.chg.mono (fun b h => .inl (.inl (.inr h)))) (fun b h => h.map (fun _ => Or.inl) hG2))
            have KB763 := hide (((KB725.out.on HB729.out)).chg hc (fun h => by have h1 := HF.out _ h; have h2 := LO5.out; omega))
            have KB764 := hide (((KB726.out.on HB729.out)).chg hc (fun h => by have h1 := HF.out _ h; have h2 := LO6.out; omega))
            have KB765 := hide (((KB727.out.on HB729.out)).chg hc (fun h => by have h1 := HF.out _ h; have h2 := LO8.out; omega))
            clear HB729 KB725 KB726 KB727 HT HCH HI hn hT hG2 hc HY
            have HT := HT_
            clear HT_
            have HCH := HCH_
            clear HCH_
            have HI := HI_
            clear HI_
            have HB767 : Hid (Below w759.heap.size w759 w759) := Below.refl _ _
            refine ⟨_, rfl, fun a762 hM761 => ?_⟩
            clear hM757
            refine s_val hM761 (.inr ⟨_, _, _, rfl, rfl, rfl⟩) rfl rfl (ev_bin rfl rfl rfl g_int (b_neq (b := false) (by simp))) (fun a769 hM768 => ?_)
            clear hM761
            refine s_val hM768 (.inl rfl) rfl rfl (ev_pick rfl rfl rfl) (fun a771 hM770 => ?_)
            clear hM768
            refine seg_nil (hK742 _ _ ?_)
            clear hK742 K742 QK742
            have hM772 := hM770.cut7 (t1 := 0) (t2 := 1) (t3 := 5) (t4 := 6) (t5 := 8) (t6 := 10) (t7 := 61) rfl rfl rfl rfl rfl rfl rfl
            clear hM770
            refine wp_cond_false (hM772.ev (t := 61) rfl) ?_
            refine wp_skip ?_
            refine hK741 _ _ ?_
            refine wp_seq_k fun K773 hK773 => ?_
            refine region_then fun K774 QK774 hK774 => ?_
            refine s_val hM772 (.inl rfl) rfl rfl (ev_fldw (m := 0) rfl rfl (fun w => by simp [go_sem])) (fun a776 hM775 => ?_)
            clear hM772
            refine s_val hM775 (.inl rfl) rfl rfl (ev_load1 (v := .int .i64 (x.k)) rfl rfl ((KB763.out.on HB767.out).rng.at_ (m := 0) (by rw [HC.out]; rfl)) (isAgg_no Try.underlying3 rfl)) (fun a778 hM777 => ?_)
            clear hM775
            refine s_val hM777 (.inl rfl) rfl rfl (ev_bin rfl rfl rfl g_int (b_eql (b := true) (decide_eq_true HK0.out))) (fun a780 hM779 => ?_)
            clear hM777
            refine seg_nil (hK774 _ _ ?_)
            clear hK774 K774 QK774
            have hM781 := hM779.cut7 (t1 := 0) (t2 := 1) (t3 := 5) (t4 := 6) (t5 := 8) (t6 := 10) (t7 := 65) rfl rfl rfl rfl rfl rfl rfl
            clear hM779
            refine wp_cond_true (hM781.ev (t := 65) rfl) ?_
            refine region_last fun K782 QK782 hK782 => ?_
            refine s_val hM781 (.inl rfl) rfl rfl (ev_move (.inl rfl) rfl) (fun a784 hM783 => ?_)
            clear hM781
            refine s_val hM783 (.inl rfl) rfl rfl (ev_fldw (m := 11) rfl rfl (fun w => by simp [go_sem])) (fun a786 hM785 => ?_)
            clear hM783
            refine s_val hM785 (.inl rfl) rfl rfl (ev_fldw (m := 15) rfl rfl (fun w => by simp [go_sem])) (fun a788 hM787 => ?_)
            clear hM785
            refine s_put hM787 rfl rfl rfl rfl rfl (KB765.out.on HB767.out) (by rw [HD.out, msC_sz]; decide) (st_int Try.underlying3 (by kernel_rfl)) (fun w789 kd hg => ?_)
            obtain ⟨D2, HD2⟩ : ∃ D2 : Array Value, Hid (D2 = msC { x with c := { x.c with d := dd } } u) := ⟨_, rfl⟩
            have KD : Hid (Blk w789 g40 42 D2) := by have h := kd; rw [HD.out, set_cd] at h; rw [HD2.out]; exact h
            clear kd
            have HT_ := hide (((HT.out.below HB767.out)).store hg (fun h => h.elim (HN1.out _ K2.r) (HN2.out _ K2.r)) (Nat.le_trans H0.out LO8.out))
            have HCH_ := hide (((HCH.out.below HB767.out)).trans (grown_chg hg) (fun b e => .inr (by subst e; exact LO8.out)))
            have HI_ := hide ((((HI.out.below HB767.out)).store hg K8.out).cd dd)
            have KB790 := hide (((KB764.out.on HB767.out)).chg (grown_chg hg) HNE.out)
            clear HB767 KB764 KB765 HT HCH HI hg
            have HT := HT_
            clear HT_
            have HCH := HCH_
            clear HCH_
            have HI := HI_
            clear HI_
            have HB793 : Hid (Below w789.heap.size w789 w789) := Below.refl _ _
            refine seg_nil (hK782 _ _ ?_)
            clear hK782 K782 QK782
            have hM794 := hM787.cut5 (t1 := 0) (t2 := 1) (t3 := 5) (t4 := 6) (t5 := 8) rfl rfl rfl rfl rfl
            clear hM787
            refine hK773 _ _ ?_
            refine region_then fun K795 QK795 hK795 => ?_
            refine s_val hM794 (.inl rfl) rfl rfl (ev_loadm rfl rfl (KD.out.on HB793.out).rng Try.underlying42 rfl (by rw [HD2.out]; exact Try.infoMsg)) (fun a797 hM796 => ?_)
            clear hM794
            refine s_putrow hM796 rfl rfl rfl rfl rfl (KB790.out.on HB793.out) (by rw [HD2.out]; exact Try.infoMsg) (by rw [HD2.out]; rfl) (one_msg HD2.out) (fun w798 kd hg => ?_)
            have KD := hide kd
            clear kd
            have HT_ := hide (((HT.out.below HB793.out)).store hg (fun h => h.elim (HN1.out _ K2.l) (HN2.out _ K2.l)) (Nat.le_trans H0.out LO6.out))
            have HCH_ := hide (((HCH.out.below HB793.out)).trans (grown_chg hg) (fun b e => .inr (by subst e; exact LO6.out)))
            have HI_ := hide (((HI.out.below HB793.out)).store hg K6.out)
            clear HB793 KB790 HT HCH HI hg
            have HT := HT_
            clear HT_
            have HCH := HCH_
            clear HCH_
            have HI := HI_
            clear HI_
            have HB801 : Hid (Below w798.heap.size w798 w798) := Below.refl _ _
            refine s_val hM796 (.inl rfl) rfl rfl (ev_move (.inr rfl) rfl) (fun a803 hM802 => ?_)
            clear hM796
            refine seg_nil (hK795 _ _ ?_)
            clear hK795 K795 QK795
            have hM804 := hM802.cut2 (t1 := 6) (t2 := 7) rfl rfl
            clear hM802
            refine wp_ret ?_
            repeat (with_reducible first | refine th_r ?_ | refine inb_r ?_ | refine js_r ?_)
            refine ret_ct (p := 6) (t := 7) rfl hM804 rfl rfl (KD.out.on HB801.out) Try.underlying42 rfl (by rw [HD2.out]; exact Try.infoMsg) ?_
            have hP := put_6 (L := L) HRAW.out HK0.out
            rw [HDD.out, HL2.out] at hP
            exact ⟨_, u, G1b, G2b, rfl, by rw [hP.1]; exact HD2, by rw [hP.1]; exact hide (((HI.out.below HB801.out)).to (fun b h => .inl (by rw [FK, HKD.out]; exact h.imp id (fun h => Or.inr h)))), by rw [hP.2]; exact hide (HT.out.below HB801.out), hide (fun b h => h.elim (fun h => (HG1.out b h).imp .inl id) (fun h => (HG2.out b h).imp .inr id)), hide (HCH.out.below HB801.out), HUC⟩
          case false =>
            simp only [Bool.false_eq_true, if_false, if_true] at HRAW
            have HRAW := hide HRAW
            obtain ⟨CHD, HCHD⟩ : ∃ C : Array Value, Hid (C = chC x v) := ⟨_, rfl⟩
            have HRCHD : Hid (Rng w41 g4 11 CHD) := (((KB8.out.on HB52.out)).rng).sub 11 (sub_ch2 HC.out HCHD.out)
            have HB806 : Hid (Below w41.heap.size w41 w41) := Below.refl _ _
            refine region_then fun K807 QK807 hK807 => ?_
            refine s_val hM68 (.inl rfl) rfl rfl (ev_bin rfl rfl rfl g_int (b_eql (b := false) (by have := HK0.out; simp [this]))) (fun a809 hM808 => ?_)
            clear hM68
            refine s_val hM808 (.inl rfl) rfl rfl (ev_move (.inr rfl) rfl) (fun a811 hM810 => ?_)
            clear hM808
            refine seg_nil (hK807 _ _ ?_)
            clear hK807 K807 QK807
            have hM812 := hM810.cut8 (t1 := 0) (t2 := 1) (t3 := 5) (t4 := 6) (t5 := 8) (t6 := 9) (t7 := 15) (t8 := 16) rfl rfl rfl rfl rfl rfl rfl rfl
            clear hM810
            refine wp_cond_false (hM812.ev (t := 16) rfl) ?_
            refine region_last fun K813 QK813 hK813 => ?_
            refine s_val hM812 (.inl rfl) rfl rfl (ev_bin rfl rfl rfl g_int (b_eql (b := false) (by have := HK0.out; simp [this]))) (fun a815 hM814 => ?_)
            clear hM812
            refine s_val hM814 (.inl rfl) rfl rfl (ev_move (.inr rfl) rfl) (fun a817 hM816 => ?_)
            clear hM814
            refine seg_nil (hK813 _ _ ?_)
            clear hK813 K813 QK813
            have hM818 := hM816.cut8 (t1 := 0) (t2 := 1) (t3 := 5) (t4 := 6) (t5 := 8) (t6 := 9) (t7 := 15) (t8 := 16) rfl rfl rfl rfl rfl rfl rfl rfl
            clear hM816
            refine hK69 _ _ ?_
            refine wp_cond_false (hM818.ev (t := 16) rfl) ?_
            refine region_then fun K819 QK819 hK819 => ?_
            refine s_val hM818 (.inl rfl) rfl rfl (ev_bin rfl rfl rfl g_int (b_eql (b := false) (by have := HK0.out; simp [this]))) (fun a821 hM820 => ?_)
            clear hM818
            refine s_val hM820 (.inl rfl) rfl rfl (ev_move (.inr rfl) rfl) (fun a823 hM822 => ?_)
            clear hM820
            refine seg_nil (hK819 _ _ ?_)
            clear hK819 K819 QK819
            have hM824 := hM822.cut8 (t1 := 0) (t2 := 1) (t3 := 5) (t4 := 6) (t5 := 8) (t6 := 9) (t7 := 15) (t8 := 25) rfl rfl rfl rfl rfl rfl rfl rfl
            clear hM822
            refine wp_cond_false (hM824.ev (t := 25) rfl) ?_
            refine region_then fun K825 QK825 hK825 => ?_
            refine s_val hM824 (.inl rfl) rfl rfl (ev_bin rfl rfl rfl g_int (b_eql (b := true) (decide_eq_true HK0.out))) (fun a827 hM826 => ?_)
            clear hM824
            refine s_val hM826 (.inl rfl) rfl rfl (ev_move (.inr rfl) rfl) (fun a829 hM828 => ?_)
            clear hM826
            refine seg_nil (hK825 _ _ ?_)
            clear hK825 K825 QK825
            have hM830 := hM828.cut8 (t1 := 0) (t2 := 1) (t3 := 5) (t4 := 6) (t5 := 8) (t6 := 9) (t7 := 15) (t8 := 33) rfl rfl rfl rfl rfl rfl rfl rfl
            clear hM828
            refine wp_cond_true (hM830.ev (t := 33) rfl) ?_
            refine region_then fun K831 QK831 hK831 => ?_
            refine s_val hM830 (.inl rfl) rfl rfl (ev_fldw (m := 11) rfl rfl (fun w => by simp [go_sem])) (fun a833 hM832 => ?_)
            clear hM830
            refine s_val hM832 (.inl rfl) rfl rfl (ev_fldw (m := 11) rfl rfl (fun w => by simp [go_sem])) (fun a835 hM834 => ?_)
            clear hM832
            refine s_val hM834 (.inl rfl) rfl rfl (ev_loadm rfl rfl (HRCHD.out.below HB806.out) Try.underlying38 rfl (by rw [HCHD.out]; exact info_hdr)) (fun a837 hM836 => ?_)
            clear hM834
            refine s_call hM836 (.inl rfl) rfl rfl (f := 40) (args := #[.agg CHD]) (ev_call hM836 rfl rfl rfl (fun w => by simp [go_sem]) _) (by rw [HCHD.out]; exact ref4_Wide x.c.h _ ((HS.out.below HB51.out)).cb ((HS.out.below HB51.out)).cp HZ.out.cb HZ.out.cp HFM) (fun e w838 hp => ?_)
            obtain ⟨rfl, hb839⟩ := hp
            refine ⟨_, rfl, fun a841 hM840 => ?_⟩
            clear hM836
            have HB842 := hide (below_then HB51.out hb839)
            have HB843 := hide (below_then HB52.out hb839)
            have HB844 := hide (below_then HB53.out hb839)
            have HB845 := hide (below_then HB54.out hb839)
            have HB846 := hide (below_then HB56.out hb839)
            have HB847 := hide (below_then HB806.out hb839)
            clear hb839 HB51 HB52 HB53 HB54 HB56 HB806
            refine seg_nil (hK831 _ _ ?_)
            clear hK831 K831 QK831
            have hM848 := hM840.cut7 (t1 := 0) (t2 := 1) (t3 := 5) (t4 := 6) (t5 := 8) (t6 := 9) (t7 := 38) rfl rfl rfl rfl rfl rfl rfl
            clear hM840
            refine wp_cond_false (hM848.ev (t := 38) rfl) ?_
            refine wp_skip ?_
            refine inb_n ?_
            refine hK62 _ _ ?_
            refine wp_seq_k fun K849 hK849 => ?_
            refine region_then fun K850 QK850 hK850 => ?_
            refine s_val hM848 (.inl rfl) rfl rfl (ev_move (.inl rfl) rfl) (fun a852 hM851 => ?_)
            clear hM848
            refine s_val hM851 (.inl rfl) rfl rfl (ev_bin (v := .bool true) rfl rfl rfl g_slice (fun w => Lib.run_eql_slice_nil w _ _ _ _ _ 0 0 Try.underlying60)) (fun a854 hM853 => ?_)
            clear hM851
            refine seg_nil (hK850 _ _ ?_)
            clear hK850 K850 QK850
            have hM855 := hM853.cut7 (t1 := 0) (t2 := 1) (t3 := 5) (t4 := 6) (t5 := 8) (t6 := 9) (t7 := 44) rfl rfl rfl rfl rfl rfl rfl
            clear hM853
            refine wp_cond_true (hM855.ev (t := 44) rfl) ?_
            refine region_then fun K856 QK856 hK856 => ?_
            refine s_val hM855 (.inl rfl) rfl rfl (ev_loadm rfl rfl (KB44.out.on HB846.out).rng Try.underlying42 rfl (by rw [HD.out]; exact Try.infoMsg)) (fun a858 hM857 => ?_)
            clear hM855
            refine s_putrow hM857 rfl rfl rfl rfl rfl (KB18.out.on HB844.out) (by rw [HD.out]; exact Try.infoMsg) (by rw [HD.out]; rfl) (one_msg HD.out) (fun w859 kd hg => ?_)
            have KD := hide kd
            clear kd
            have HT_ := hide (((HT.out.below HB842.out)).store hg (fun h => by have h1 := HF.out _ h; have h2 := LO6.out; omega) (Nat.le_trans H0.out LO6.out))
            have HCH_ := hide (((HCH.out.below HB842.out)).trans (grown_chg hg) (fun b e => .inr (by subst e; exact LO6.out)))
            have HI_ := hide (((HI.out.below HB845.out)).store hg K6.out)
            clear HB842 HB843 HB844 HB845 HB846 HB847 KB18 HT HCH HI hg
            have HT := HT_
            clear HT_
            have HCH := HCH_
            clear HCH_
            have HI := HI_
            clear HI_
            have HB862 : Hid (Below w859.heap.size w859 w859) := Below.refl _ _
            refine s_val hM857 (.inl rfl) rfl rfl (ev_move (.inr rfl) rfl) (fun a864 hM863 => ?_)
            clear hM857
            refine seg_nil (hK856 _ _ ?_)
            clear hK856 K856 QK856
            have hM865 := hM863.cut2 (t1 := 6) (t2 := 7) rfl rfl
            clear hM863
            refine wp_ret ?_
            repeat (with_reducible first | refine th_r ?_ | refine inb_r ?_ | refine js_r ?_)
            refine ret_ct (p := 6) (t := 7) rfl hM865 rfl rfl (KD.out.on HB862.out) Try.underlying42 rfl (by rw [HD.out]; exact Try.infoMsg) ?_
            have hP := put_none (L := L) HRAW.out
            exact ⟨_, u, G1, G2, rfl, by rw [hP.1]; exact HD, by rw [hP.1]; exact hide (((HI.out.below HB862.out)).to (fun b h => .inl (by rw [FK, HKD.out]; exact h.imp id (fun h => Or.inr h)))), by rw [hP.2]; exact hide (HT.out.below HB862.out), hide (fun b h => .inl h), hide (HCH.out.below HB862.out), HUC⟩
        case neg =>
          have HK0 : Hid (¬ (x.k = 1 ∨ x.k = 3 ∨ x.k = 4 ∨ x.k = 6)) := by rw [Hid]; omega
          have HRAW := hide (raw_no HK0.out)
          clear hk1 hk3 hk4 hk6
          refine region_then fun K866 QK866 hK866 => ?_
          refine s_val hM68 (.inl rfl) rfl rfl (ev_bin rfl rfl rfl g_int (b_eql (b := false) (decide_eq_false (by have := HK0.out; omega)))) (fun a868 hM867 => ?_)
          clear hM68
          refine s_val hM867 (.inl rfl) rfl rfl (ev_move (.inr rfl) rfl) (fun a870 hM869 => ?_)
          clear hM867
          refine seg_nil (hK866 _ _ ?_)
          clear hK866 K866 QK866
          have hM871 := hM869.cut8 (t1 := 0) (t2 := 1) (t3 := 5) (t4 := 6) (t5 := 8) (t6 := 9) (t7 := 15) (t8 := 16) rfl rfl rfl rfl rfl rfl rfl rfl
          clear hM869
          refine wp_cond_false (hM871.ev (t := 16) rfl) ?_
          refine region_last fun K872 QK872 hK872 => ?_
          refine s_val hM871 (.inl rfl) rfl rfl (ev_bin rfl rfl rfl g_int (b_eql (b := false) (decide_eq_false (by have := HK0.out; omega)))) (fun a874 hM873 => ?_)
          clear hM871
          refine s_val hM873 (.inl rfl) rfl rfl (ev_move (.inr rfl) rfl) (fun a876 hM875 => ?_)
          clear hM873
          refine seg_nil (hK872 _ _ ?_)
          clear hK872 K872 QK872
          have hM877 := hM875.cut8 (t1 := 0) (t2 := 1) (t3 := 5) (t4 := 6) (t5 := 8) (t6 := 9) (t7 := 15) (t8 := 16) rfl rfl rfl rfl rfl rfl rfl rfl
          clear hM875
          refine hK69 _ _ ?_
          refine wp_cond_false (hM877.ev (t := 16) rfl) ?_
          refine region_then fun K878 QK878 hK878 => ?_
          refine s_val hM877 (.inl rfl) rfl rfl (ev_bin rfl rfl rfl g_int (b_eql (b := false) (decide_eq_false (by have := HK0.out; omega)))) (fun a880 hM879 => ?_)
          clear hM877
          refine s_val hM879 (.inl rfl) rfl rfl (ev_move (.inr rfl) rfl) (fun a882 hM881 => ?_)
          clear hM879
          refine seg_nil (hK878 _ _ ?_)
          clear hK878 K878 QK878
          have hM883 := hM881.cut8 (t1 := 0) (t2 := 1) (t3 := 5) (t4 := 6) (t5 := 8) (t6 := 9) (t7 := 15) (t8 := 25) rfl rfl rfl rfl rfl rfl rfl rfl
          clear hM881
          refine wp_cond_false (hM883.ev (t := 25) rfl) ?_
          refine region_then fun K884 QK884 hK884 => ?_
          refine s_val hM883 (.inl rfl) rfl rfl (ev_bin rfl rfl rfl g_int (b_eql (b := false) (decide_eq_false (by have := HK0.out; omega)))) (fun a886 hM885 => ?_)
          clear hM883
          refine s_val hM885 (.inl rfl) rfl rfl (ev_move (.inr rfl) rfl) (fun a888 hM887 => ?_)
          clear hM885
          refine seg_nil (hK884 _ _ ?_)
          clear hK884 K884 QK884
          have hM889 := hM887.cut8 (t1 := 0) (t2 := 1) (t3 := 5) (t4 := 6) (t5 := 8) (t6 := 9) (t7 := 15) (t8 := 33) rfl rfl rfl rfl rfl rfl rfl rfl
          clear hM887
          refine wp_cond_false (hM889.ev (t := 33) rfl) ?_
          refine wp_skip ?_
          refine inb_n ?_
          refine hK62 _ _ ?_
          refine wp_seq_k fun K890 hK890 => ?_
          refine region_then fun K891 QK891 hK891 => ?_
          refine s_val hM889 (.inl rfl) rfl rfl (ev_move (.inl rfl) rfl) (fun a893 hM892 => ?_)
          clear hM889
          refine s_val hM892 (.inl rfl) rfl rfl (ev_bin (v := .bool true) rfl rfl rfl g_slice (fun w => Lib.run_eql_slice_nil w _ _ _ _ _ 0 0 Try.underlying60)) (fun a895 hM894 => ?_)
          clear hM892
          refine seg_nil (hK891 _ _ ?_)
          clear hK891 K891 QK891
          have hM896 := hM894.cut7 (t1 := 0) (t2 := 1) (t3 := 5) (t4 := 6) (t5 := 8) (t6 := 9) (t7 := 44) rfl rfl rfl rfl rfl rfl rfl
          clear hM894
          refine wp_cond_true (hM896.ev (t := 44) rfl) ?_
          refine region_then fun K897 QK897 hK897 => ?_
          refine s_val hM896 (.inl rfl) rfl rfl (ev_loadm rfl rfl (KB44.out.on HB56.out).rng Try.underlying42 rfl (by rw [HD.out]; exact Try.infoMsg)) (fun a899 hM898 => ?_)
          clear hM896
          refine s_putrow hM898 rfl rfl rfl rfl rfl (KB18.out.on HB53.out) (by rw [HD.out]; exact Try.infoMsg) (by rw [HD.out]; rfl) (one_msg HD.out) (fun w900 kd hg => ?_)
          have KD := hide kd
          clear kd
          have HT_ := hide (((HT.out.below HB51.out)).store hg (fun h => by have h1 := HF.out _ h; have h2 := LO6.out; omega) (Nat.le_trans H0.out LO6.out))
          have HCH_ := hide (((HCH.out.below HB51.out)).trans (grown_chg hg) (fun b e => .inr (by subst e; exact LO6.out)))
          have HI_ := hide (((HI.out.below HB54.out)).store hg K6.out)
          clear HB51 HB52 HB53 HB54 HB56 KB18 HT HCH HI hg
          have HT := HT_
          clear HT_
          have HCH := HCH_
          clear HCH_
          have HI := HI_
          clear HI_
          have HB903 : Hid (Below w900.heap.size w900 w900) := Below.refl _ _
          refine s_val hM898 (.inl rfl) rfl rfl (ev_move (.inr rfl) rfl) (fun a905 hM904 => ?_)
          clear hM898
          refine seg_nil (hK897 _ _ ?_)
          clear hK897 K897 QK897
          have hM906 := hM904.cut2 (t1 := 6) (t2 := 7) rfl rfl
          clear hM904
          refine wp_ret ?_
          repeat (with_reducible first | refine th_r ?_ | refine inb_r ?_ | refine js_r ?_)
          refine ret_ct (p := 6) (t := 7) rfl hM906 rfl rfl (KD.out.on HB903.out) Try.underlying42 rfl (by rw [HD.out]; exact Try.infoMsg) ?_
          have hP := put_none (L := L) HRAW.out
          exact ⟨_, u, G1, G2, rfl, by rw [hP.1]; exact HD, by rw [hP.1]; exact hide (((HI.out.below HB903.out)).to (fun b h => .inl (by rw [FK, HKD.out]; exact h.imp id (fun h => Or.inr h)))), by rw [hP.2]; exact hide (HT.out.below HB903.out), hide (fun b h => .inl h), hide (HCH.out.below HB903.out), HUC⟩
end Go.Proofs.Ytebaojcfmkobjaa
