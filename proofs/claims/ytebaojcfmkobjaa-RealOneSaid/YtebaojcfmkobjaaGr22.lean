/-
  Texts joined: words and contracts that later texts use; lemmas alone, no conditions of a statement.
-/
import Derived.Test.YtebaojcfmkobjaaGr09
import Derived.Test.YtebaojcfmkobjaaGr02
import Derived.Test.YtebaojcfmkobjaaGr04
import Derived.Deep.RegionHeld3
import Derived.Deep.DrawnRows
import Derived.Test.YtebaojcfmkobjaaGr01
import Derived.Test.YtebaojcfmkobjaaGr17
import Derived.Test.YtebaojcfmkobjaaMsgV
import Derived.Test.YtebaojcfmkobjaaGr21
import Derived.ScopeJumps
set_option linter.unusedVariables false
set_option linter.unusedSimpArgs false
/-
  Contracts: a header's bytes: the reference's.
-/
namespace Go.Proofs.Ytebaojcfmkobjaa
open Go.RowKit

set_option maxRecDepth 100000 in
set_option maxHeartbeats 4000000 in
theorem ref4_HeaderBytes {A1 A2 : Option Addr} {n1 c1 n2 c2 : Nat} (x : HdD) (w : World) (hs : Sl w 1 A1 n1 (ints x.bs)) (ht : Sl w 1 A2 n2 (ints x.ps)) (hr : Hid (formH 16 x = true)) :
    Calls Try.prog 31 #[hdV x.a x.r A1 n1 c1 A2 n2 c2] w fun e w' => ∃ v', e = .returned v' ∧ w'.ownsRow w.heap.size 5 1 v' (headerB x).length (bytes8 (headerB x)) ∧ Below w.heap.size w w' := by
  obtain ⟨h1, h2, h3, h4, h5, h6, h7⟩ := formH_iff.1 hr.out
  obtain ⟨z1, z2, z3, z4⟩ := header_size hr.out
  have hn1 : n1 ≤ 8 := by rw [← hs.ilen]; exact h3
  have hn2 : n2 ≤ 16 := by have := hs.ilen; have := ht.ilen; omega
  have HPB : Hid ((putB (headerT x)).length ≤ 1048576) := by have h : (headerB x).length ≤ 300 := z2; rw [headerB] at h; rw [Hid]; omega
  have D1 := hide (digs_ok h4)
  have D2 := hide (digs_ok h5)
  have L1 : Hid ((numsB x.bs).length ≤ 1048576) := by rw [Hid]; omega
  have L2 : Hid ((numsB x.ps).length ≤ 1048576) := by rw [Hid]; omega
  obtain ⟨S1, HS1⟩ : ∃ s, Hid (tx (numsB x.bs) = s) := ⟨_, rfl⟩
  obtain ⟨S2, HS2⟩ : ∃ s, Hid (tx (numsB x.ps) = s) := ⟨_, rfl⟩
  obtain ⟨S3, HS3⟩ : ∃ s, Hid (numS x.a = s) := ⟨_, rfl⟩
  obtain ⟨S4, HS4⟩ : ∃ s, Hid (numS x.r = s) := ⟨_, rfl⟩
  obtain ⟨⟨ha0, ha1⟩, ⟨hr0, hr1⟩⟩ := And.intro h1 h2
  clear h1 h2 h3 h4 h5 h6 h7 z1 z2 z3 z4
  have hb0 := below_alloc' w (.cells #[.int .i64 x.a, .int .i64 x.r, .slice A1 n1 c1, .slice A2 n2 c2] 38)
  have kx := Blk.new w 38 #[.int .i64 x.a, .int .i64 x.r, .slice A1 n1 c1, .slice A2 n2 c2]
  have s1 := hs.below hb0
  have s2 := ht.below hb0
  have HT : Hid (headerT x = [headerW, S3, S4, S1, S2]) := by rw [Hid, headerT, HS1.out, HS2.out, HS3.out, HS4.out]
  have HHB : Hid (headerB x = putB (headerT x)) := rfl
  obtain ⟨Tx, HTx⟩ : ∃ T, Hid (headerT x = T) := ⟨_, rfl⟩
  obtain ⟨Bx, HBx⟩ : ∃ T, Hid (headerB x = T) := ⟨_, rfl⟩
  rw [HTx.out] at HPB HT HHB
  rw [HBx.out] at HHB ⊢
  obtain ⟨a, ra, bs, ps⟩ := x
  simp only at hb0 kx s1 s2 D1 D2 L1 L2 HS1 HS2 HS3 HS4 ha0 ha1 hr0 hr1 ⊢
  clear hs ht hr HTx HBx
  unfold hdV
  go_enter Try.func31, Try.ntmps31
  go_wp2_with fail
  generalize w.alloc (.cells #[.int .i64 a, .int .i64 ra, .slice A1 n1 c1, .slice A2 n2 c2] 38) = w1 at hb0 kx s1 s2 ⊢
  obtain ⟨g, hg⟩ : ∃ g, w.heap.size = g := ⟨_, rfl⟩
  have HG := hide hg
  have hgw := kx.lt
  rw [hg] at kx hgw ⊢
  clear hg
  refine (ref2_Nums_yes _ s1 (by omega) D1.out L1.out).mono ?_
  rintro e w2 ⟨v2, rfl, o1, hb1⟩
  have kx2 := kx.later hb1
  have hbA := below_then hb0 hb1
  have t2 := s2.below hb1
  obtain ⟨A3, c3, rfl⟩ := own_slice o1
  have y3 : w2.cell? ⟨g, 3, none⟩ = some (.slice A2 n2 c2) := kx2.at_ rfl
  clear hb1 hb0 kx s1 s2
  go_wp2_with fail
  refine (ref2_Nums_yes _ t2 (by omega) D2.out L2.out).mono ?_
  rintro e w3 ⟨v3, rfl, o2, hb2⟩
  have kx3 := kx2.later hb2
  have hbB := below_then hbA hb2
  have o1b := own_later o1 hb2
  obtain ⟨A4, c4, rfl⟩ := own_slice o2
  have r1 := Sl.of_own o1b
  have r2 := Sl.of_own o2
  clear hb2 hbA kx2 t2 o1 o2 o1b y3
  go_wp2_with fail
  have q0 : w3.cell? ⟨g, 0, none⟩ = some (.int .i64 a) := kx3.at_ rfl
  have q1 : w3.cell? ⟨g, 1, none⟩ = some (.int .i64 ra) := kx3.at_ rfl
  have hbc := Below.refl w3.heap.size w3
  (first | (go_region_held3 (fun w' => w'.cell? ⟨g, 0, none⟩ = some (.int .i64 a) ∧ w'.cell? ⟨g, 1, none⟩ = some (.int .i64 ra) ∧ (convert 60 9 (.slice A3 (numsB bs).length c3)).run Try.prog w' = .ok (.string S1) w' ∧ (convert 60 9 (.slice A4 (numsB ps).length c4)).run Try.prog w' = .ok (.string S2) w')
    (first | exact ⟨(kx3.later (by first | exact hbc | exact hbc.drew | exact hbc.alloc hbc.size _ | exact (hbc.alloc hbc.size _).drew | exact ((hbc.alloc hbc.size _).alloc (by have := hbc.size; simp; try omega) _) | exact ((hbc.alloc hbc.size _).alloc (by have := hbc.size; simp; try omega) _).drew)).at_ rfl, (kx3.later (by first | exact hbc | exact hbc.drew | exact hbc.alloc hbc.size _ | exact (hbc.alloc hbc.size _).drew | exact ((hbc.alloc hbc.size _).alloc (by have := hbc.size; simp; try omega) _) | exact ((hbc.alloc hbc.size _).alloc (by have := hbc.size; simp; try omega) _).drew)).at_ rfl, conv_is Try.underlying60 Try.underlying5 Try.underlying9 (r1.below (by first | exact hbc | exact hbc.drew | exact hbc.alloc hbc.size _ | exact (hbc.alloc hbc.size _).drew | exact ((hbc.alloc hbc.size _).alloc (by have := hbc.size; simp; try omega) _) | exact ((hbc.alloc hbc.size _).alloc (by have := hbc.size; simp; try omega) _).drew)) HS1, conv_is Try.underlying60 Try.underlying5 Try.underlying9 (r2.below (by first | exact hbc | exact hbc.drew | exact hbc.alloc hbc.size _ | exact (hbc.alloc hbc.size _).drew | exact ((hbc.alloc hbc.size _).alloc (by have := hbc.size; simp; try omega) _) | exact ((hbc.alloc hbc.size _).alloc (by have := hbc.size; simp; try omega) _).drew)) HS2⟩ | go_keep)
    ((first
      | (go_at_call 59; ((with_reducible refine (ref4_num a _ (by omega) (by omega) HS3).mono ?_); rintro e w6 ⟨rfl, hb6⟩; have hbc := below_then (by first | exact hbc | exact hbc.drew | exact hbc.alloc hbc.size _ | exact (hbc.alloc hbc.size _).drew | exact ((hbc.alloc hbc.size _).alloc (by have := hbc.size; simp; try omega) _) | exact ((hbc.alloc hbc.size _).alloc (by have := hbc.size; simp; try omega) _).drew) hb6))
      | (go_at_call 59; ((with_reducible refine (ref4_num ra _ (by omega) (by omega) HS4).mono ?_); rintro e w6 ⟨rfl, hb6⟩; have hbc := below_then (by first | exact hbc | exact hbc.drew | exact hbc.alloc hbc.size _ | exact (hbc.alloc hbc.size _).drew | exact ((hbc.alloc hbc.size _).alloc (by have := hbc.size; simp; try omega) _) | exact ((hbc.alloc hbc.size _).alloc (by have := hbc.size; simp; try omega) _).drew) hb6))
      | (go_at_call 58; refine (ref2_Put _ (ls := [headerW, S3, S4, S1, S2]) (by first | exact Sl.of_blk (size := 1) (n := 5) (Blk.new _ 9 #[.string ⟨#[104, 101, 97, 100, 101, 114]⟩, .string S3, .string S4, .string S1, .string S2]) rfl | exact (Sl.of_blk (size := 1) (n := 5) (Blk.new _ 9 #[.string ⟨#[104, 101, 97, 100, 101, 114]⟩, .string S3, .string S4, .string S1, .string S2]) rfl).drew) (by omega) (by rw [← HT.out]; exact HPB.out)).mono ?_; rintro e w9 ⟨v9, rfl, own16, hb9⟩; have hz15 := Below.size (by first | exact hbc | exact hbc.drew | exact hbc.alloc hbc.size _ | exact (hbc.alloc hbc.size _).drew | exact ((hbc.alloc hbc.size _).alloc (by have := hbc.size; simp; try omega) _) | exact ((hbc.alloc hbc.size _).alloc (by have := hbc.size; simp; try omega) _).drew); have hbc := below_then (by first | exact hbc | exact hbc.drew | exact hbc.alloc hbc.size _ | exact (hbc.alloc hbc.size _).drew | exact ((hbc.alloc hbc.size _).alloc (by have := hbc.size; simp; try omega) _) | exact ((hbc.alloc hbc.size _).alloc (by have := hbc.size; simp; try omega) _).drew) hb9)
      | fail)))  | fail)
  all_goals
    have HBF := hide (below_then hbB hbc)
    have hz9 := hb9.size
    have hzB := hbB.size
    have hz10 := hbc.size
    rw [← HT.out, ← HHB.out] at own16
    have OWF := hide (own_mono (base' := w.heap.size) own16 (by have := Nat.le_trans hzB hz15; simp; omega))
    go_wp2_with fail
    go_ret
    exact ⟨_, rfl, OWF.out, HBF.out⟩
end Go.Proofs.Ytebaojcfmkobjaa
/-
  Contracts: a batch's bytes: the reference's.
-/
namespace Go.Proofs.Ytebaojcfmkobjaa
open Go.RowKit
attribute [local go_sem ↓] Go.wp_at_zero Go.wp_at_succ

end Go.Proofs.Ytebaojcfmkobjaa
/-
  Whether a message is real, by a book: plain facts; words for the walks of layer 8; contracts of slices.Contains over numbers.
-/
namespace Go.Proofs.Ytebaojcfmkobjaa
open Go.RowKit

def byB (sg : Int × Int → Bool) (ls : List Int) (who d : Int) : Bool := sg (who, d) || decide (who ∈ ls)
def isB (L : List (List UInt8)) (d : Int) (x : List UInt8) : Bool := decide (fndN (fnd L x) = d)
def knownB (L : List (List UInt8)) (ds : List Int) : Bool := ds.all fun d => decide (1 ≤ d ∧ d ≤ (L.length : Int))
def certB (L : List (List UInt8)) (sg : Int × Int → Bool) (ls : List Int) (x : CtD) : Bool := isB L x.d (headerB x.h) && x.ss.all fun z => byB sg ls z x.d
def realB (L : List (List UInt8)) (sg : Int × Int → Bool) (ls : List Int) (x : MsD) : Bool :=
  if x.k = 1 ∨ x.k = 3 then isB L x.d (batchB x.b.a x.b.n x.b.l) && byB sg ls x.b.a x.d
  else if x.k = 4 then isB L x.d (headerB x.h) && byB sg ls x.f x.d
  else if x.k = 6 then certB L sg ls x.c
  else if x.k = 5 then decide (x.d ≤ (L.length : Int)) && byB sg ls x.f x.d
  else if x.k = 2 then decide (x.d ≤ (L.length : Int))
  else knownB L x.s
theorem known_one {L : List (List UInt8)} {d : Int} (h : 1 ≤ d) : knownB L [d] = decide (d ≤ (L.length : Int)) := by simp [knownB, h]
/-- What is named where. -/
theorem may_d {n : Int} {x : MsD} (h : mayM n x = true) (hk : x.k = 1 ∨ x.k = 2 ∨ x.k = 3 ∨ x.k = 4 ∨ x.k = 5) : 1 ≤ x.d ∧ x.d ≤ 65536 := by
  have h2 := (mayM_iff.1 h).2.1
  unfold okM hasB hasD hasH hasC hasS at h2
  rcases hk with hk | hk | hk | hk | hk
  all_goals
    rw [hk] at h2
    simp at h2
    first | exact digO_iff.1 h2.1 | exact digO_iff.1 h2
theorem may_b {n : Int} {x : MsD} (h : mayM n x = true) (hk : x.k = 1 ∨ x.k = 3) : mayB x.b.a x.b.n x.b.l = true := by
  have h2 := (mayM_iff.1 h).2.1
  unfold okM hasB at h2
  rw [if_pos (by simpa using hk)] at h2
  simp at h2
  exact h2.2.1
theorem may_h {n : Int} {x : MsD} (h : mayM n x = true) (hk : x.k = 4) : formH 16 x.h = true := by
  have h2 := (mayM_iff.1 h).2.1
  unfold okM hasB hasH at h2
  rw [hk] at h2
  simp at h2
  exact mayH_form h2.2.1
theorem may_c {n : Int} {x : MsD} (h : mayM n x = true) (hk : x.k = 6) : formH 16 x.c.h = true ∧ 1 ≤ x.c.d ∧ x.c.ss.length ≤ 16 := by
  have hg := good_of_may h
  have h2 := (mayM_iff.1 h).2.1
  unfold okM hasB hasD hasH hasC at h2
  rw [hk] at h2
  simp at h2
  obtain ⟨m1, m2, m3, m4⟩ := mayC_iff.1 h2
  exact ⟨mayH_form m1, (digO_iff.1 m2).1, hg.ss.2⟩
section
variable {P : Program} {a : Act} {n : Nat} {M : List (Nat × Value)} {o : Oper} {w w' : World} {v : Value} {Q : Exit → Act → World → Prop}
/-- A cell. -/
def CellAt (w : World) (b k : Nat) (v : Value) : Prop := b < w.heap.size ∧ w.cell? ⟨b, k, none⟩ = some v
theorem CellAt.below {b k : Nat} (h : CellAt w b k v) (hb : Below w.heap.size w w') : CellAt w' b k v := ⟨Nat.lt_of_lt_of_le h.1 hb.size, (hb.cell h.1).trans h.2⟩
theorem CellAt.of {b k : Nat} (h : w.cell? ⟨b, k, none⟩ = some v) : CellAt w b k v := ⟨lt_of_cell h, h⟩
theorem act_off {c : Code} (n : Nat) (M : List (Nat × Value)) (h0 : Frm a n M) (h : ∀ a, Frm a n M → c.wp P Q a w) : c.wp P Q a w := h a h0
theorem th_r {K : Act → World → Prop} (h : Q .ret a w) : Exit.then K Q .ret a w := h
theorem inb_r {id : Nat} (h : Q .ret a w) : Exit.inBlock id Q .ret a w := h
theorem th_g {l : Nat} {K : Act → World → Prop} (h : Q (.goto l) a w) : Exit.then K Q (.goto l) a w := h
theorem inb_g {id l : Nat} (h : Q (.goto l) a w) : Exit.inBlock id Q (.goto l) a w := h
theorem ev_box {T : TypeId} {x : Operand} {C : Array Value} (hM : Frm a n M) (ho : o.op = .box T x) (hx : opv M x = some (.agg C)) : (execOp a.eval o).run P w = .ok (.value ((fun g => Value.pointer (some ⟨g, 0, none⟩)) w.heap.size)) (w.alloc (.cells C T)) := by
  simp only [execOp, ho, hM.evo hx]
  simp [go_sem, Instr.box]
theorem ev_build2 {T : TypeId} {x y : Operand} {vx vy : Value} (ho : o.op = .build T #[(0, x), (1, y)]) (hx : opv M x = some vx) (hy : opv M y = some vy) (hr : ∀ w, (Instr.build T #[(0, vx), (1, vy)]).run P w = .ok v w) : Ev P M o w v := fun a n hM => by
  have e : (#[(0, x), (1, y)] : Array (Nat × Operand)).map (fun (i, x) => (i, a.eval x)) = #[(0, vx), (1, vy)] := by simp [hM.evo hx, hM.evo hy]
  simp only [execOp, ho, e]
  simp [Sem.run_bind, hr]
theorem ev_bsl {t e : TypeId} {y : Operand} {z : Value} (hM : Frm a n M) (ho : o.op = .buildSlice t 1 #[(0, y)]) (hy : opv M y = some z) (hr : ∀ w, (Instr.buildSlice t 1 #[(0, z)]).run P w = .ok (.slice (some ⟨w.heap.size, 0, none⟩) 1 1) (w.alloc (.cells #[z] e))) :
    (execOp a.eval o).run P w = .ok (.value ((fun g => Value.slice (some ⟨g, 0, none⟩) 1 1) w.heap.size)) (w.alloc (.cells #[z] e)) := by
  have e2 : (#[(0, y)] : Array (Nat × Operand)).map (fun (i, x) => (i, a.eval x)) = #[(0, z)] := by simp [hM.evo hy]
  simp only [execOp, ho, e2]
  simp [Sem.run_bind, hr]
theorem ev_ptrnil {T tr : TypeId} {x : Operand} {p : Addr} (ho : o.op = .binOp .eql T x (.const (.pointer none)) tr) (hx : opv M x = some (.pointer (some p))) (hu : ∀ w, (binOp .eql T (.pointer (some p)) (.pointer none)).run P w = .ok (.bool false) w)
    (hg : ∀ w, (eqGuard .eql T x (.const (.pointer none)) (.pointer (some p)) (.pointer none)).run P w = .ok () w) : Ev P M o w (.bool false) := ev_bin ho hx rfl hg hu
/-- Jumps to labels, each with what holds at it and a number that falls. -/
def Exit.jumps (J : Nat → Act → World → Prop) (Q : Exit → Act → World → Prop) : Exit → Act → World → Prop
  | .goto l, a, w => J l a w
  | e, a, w => Q e a w
theorem js_g {J : Nat → Act → World → Prop} {l : Nat} (h : J l a w) : Exit.jumps J Q (.goto l) a w := h
theorem js_r {J : Nat → Act → World → Prop} (h : Q .ret a w) : Exit.jumps J Q .ret a w := h
theorem scope_many {c : Code} (R : Nat → Code) (I : Nat → Nat → Act → World → Prop) (hf : ∀ l m a w, I l m a w → findLabel c l = some (Code.skip.seq (R l)))
    (pass : ∀ l m a w, I l m a w → (R l).wp P (Exit.jumps (fun l' a' w' => ∃ m', m' < m ∧ I l' m' a' w') Q) a w)
    (first : (∀ l m a w, I l m a w → (R l).wp P (Exit.jumps (fun l' a' w' => ∃ m', I l' m' a' w') Q) a w) → c.wp P (Exit.jumps (fun l' a' w' => ∃ m', I l' m' a' w') Q) a w) : (Code.scope c).wp P Q a w := by
  intro b k cs
  have hg : ∀ l m a w, I l m a w → gotoIn l (.inScope c :: k) = some (.code (Code.skip.seq (R l)) :: .inScope c :: k) := fun l m a w h => by simp [gotoIn, hf l m a w h]
  have key : ∀ m l a w, I l m a w → ∃ e a' w', Q e a' w' ∧ Arrives P (lone (b.at a (.code (Code.skip.seq (R l)) :: .inScope c :: k)) cs w) b k cs e a' w' := by
    intro m
    induction m using Nat.strongRecOn with
    | _ m ih =>
      intro l a w hI
      obtain ⟨e, a₁, w₁, hq, harr⟩ := (wp_seq (wp_skip (pass l m a w hI)) : (Code.skip.seq (R l)).wp P (Exit.jumps (fun l' a' w' => ∃ m', m' < m ∧ I l' m' a' w') Q) a w) b (.inScope c :: k) cs
      cases e with
      | normal => exact ⟨.normal, a₁, w₁, hq, Steps.trans harr (.one step_inScope)⟩
      | exit id => exact ⟨.exit id, a₁, w₁, hq, fun k' hk => harr k' (by simp [exitTo, hk])⟩
      | goto l' =>
        obtain ⟨m', hlt, hI'⟩ := hq
        obtain ⟨e₂, a₂, w₂, hq₂, harr₂⟩ := ih m' hlt l' a₁ w₁ hI'
        exact ⟨e₂, a₂, w₂, hq₂, .of_steps (harr _ (hg _ _ _ _ hI')) harr₂⟩
      | ret => exact ⟨_, a₁, w₁, hq, harr⟩
      | panic ch => exact ⟨_, a₁, w₁, hq, harr⟩
      | outgrown => exact ⟨_, a₁, w₁, hq, harr⟩
  have hfirst := first fun l m a w hI => wp_mono (pass l m a w hI) fun e a' w' h => by
    cases e with
    | goto l' => obtain ⟨m', _, h'⟩ := h; exact ⟨m', h'⟩
    | _ => exact h
  obtain ⟨e, a₁, w₁, hq, harr⟩ := hfirst b (.inScope c :: k) cs
  cases e with
  | normal => exact ⟨.normal, a₁, w₁, hq, .head step_scope (Steps.trans harr (.one step_inScope))⟩
  | exit id => exact ⟨.exit id, a₁, w₁, hq, fun k' hk => .head step_scope (harr k' (by simp [exitTo, hk]))⟩
  | goto l' =>
    obtain ⟨m', hI'⟩ := hq
    obtain ⟨e₂, a₂, w₂, hq₂, harr₂⟩ := key m' l' a₁ w₁ hI'
    exact ⟨e₂, a₂, w₂, hq₂, .of_steps (.head step_scope (harr _ (hg _ _ _ _ hI'))) harr₂⟩
  | ret => exact ⟨_, a₁, w₁, hq, .of_steps (.one step_scope) harr⟩
  | panic ch => exact ⟨_, a₁, w₁, hq, .of_steps (.one step_scope) harr⟩
  | outgrown => exact ⟨_, a₁, w₁, hq, .of_steps (.one step_scope) harr⟩
end
/-- Parts of a message's row. -/
theorem sub_batch {x : MsD} {v : MsV} {C : Array Value} (h : C = msC x v) : ∀ j z, (#[.int .i64 x.b.a, .int .i64 x.b.n, .slice v.tx.A v.tx.n v.tx.c] : Array Value)[j]? = some z → C[4 + j]? = some z := by
  subst h; intro j z hz
  match j, hz with
  | 0, hz => exact hz
  | 1, hz => exact hz
  | 2, hz => exact hz
  | j + 3, hz => simp at hz
theorem sub_hdr {x : MsD} {v : MsV} {C : Array Value} (h : C = msC x v) : ∀ j z, (#[.int .i64 x.h.a, .int .i64 x.h.r, .slice v.hb.A v.hb.n v.hb.c, .slice v.hp.A v.hp.n v.hp.c] : Array Value)[j]? = some z → C[7 + j]? = some z := by
  subst h; intro j z hz
  match j, hz with
  | 0, hz => exact hz
  | 1, hz => exact hz
  | 2, hz => exact hz
  | 3, hz => exact hz
  | j + 4, hz => simp at hz
def ctC (x : MsD) (v : MsV) : Array Value := #[.int .i64 x.c.h.a, .int .i64 x.c.h.r, v.cb.v, v.cp.v, .int .i64 x.c.d, v.cs.v]
theorem sub_cert {x : MsD} {v : MsV} {C D : Array Value} (h : C = msC x v) (hd : D = ctC x v) : ∀ j z, D[j]? = some z → C[11 + j]? = some z := by
  subst h; subst hd; intro j z hz
  match j, hz with
  | 0, hz => exact hz
  | 1, hz => exact hz
  | 2, hz => exact hz
  | 3, hz => exact hz
  | 4, hz => exact hz
  | 5, hz => exact hz
  | j + 6, hz => simp [ctC] at hz
theorem sub_chdr {x : MsD} {v : MsV} {D : Array Value} (h : D = ctC x v) : ∀ j z, (#[.int .i64 x.c.h.a, .int .i64 x.c.h.r, .slice v.cb.A v.cb.n v.cb.c, .slice v.cp.A v.cp.n v.cp.c] : Array Value)[j]? = some z → D[0 + j]? = some z := by
  subst h; intro j z hz
  match j, hz with
  | 0, hz => exact hz
  | 1, hz => exact hz
  | 2, hz => exact hz
  | 3, hz => exact hz
  | j + 4, hz => simp at hz
set_option maxHeartbeats 400000 in
theorem slices_Index_int (A : Option Addr) (n c : Nat) (x : Int) (xs : List Int) (w : World) (hs : Sl w 1 A n (ints xs)) (hn : n ≤ 9223372036854775807) :
    Calls Try.prog 104 #[.slice A n c, .int .i64 x] w fun e w' => e = .returned (.int .i64 (inIdx xs x)) ∧ w = w' := by
  have HL := hide hs.ilen
  go_enter Try.func104, Try.ntmps104
  go_wp2_with fail
  go_loop [8] (fun i => ∃ k : Nat, k ≤ n ∧ i = .int .i64 k ∧ Hid (x ∉ xs.take k)) (fun i => n - (intOf i).toNat)
  case atStart => exact ⟨0, Nat.zero_le _, rfl, by simp [Hid]⟩
  case round =>
    obtain ⟨k, hk, rfl, HX⟩ := hrel
    by_cases hlt : k < n
    · obtain ⟨b, off, u, rfl, HU, hc, _⟩ := hs.int hlt
      clear hs
      by_cases he : u = x
      · subst he
        go_wp2_with fail
        go_ret
        exact ⟨ret_int (inIdx_found HU.out HX.out).symm, rfl⟩
      · have hb : (x == u) = false := by simpa using fun e => he e.symm
        go_wp2_with fail
        go_round
        case rel => exact ⟨k + 1, by omega, by go_num, fun hm => ((mem_take_succ HU.out x).1 hm).elim HX.out (fun e => he e.symm)⟩
        case measure => simp [intOf]; omega
    · obtain rfl : k = n := by omega
      go_wp2_with fail
      go_ret
      exact ⟨ret_int (inIdx_none HL.out HX.out).symm, rfl⟩
theorem slices_Contains_int (A : Option Addr) (n c : Nat) (x : Int) (xs : List Int) (w : World) (hs : Sl w 1 A n (ints xs)) (hn : n ≤ 9223372036854775807) :
    Calls Try.prog 95 #[.slice A n c, .int .i64 x] w fun e w' => e = .returned (.bool (decide (x ∈ xs))) ∧ w = w' := by
  have h := slices_Index_int A n c x xs w hs hn
  have hd : decide (0 ≤ inIdx xs x) = decide (x ∈ xs) := by rw [decide_eq_decide]; exact inIdx_ge
  clear hs
  go_enter Try.func95, Try.ntmps95
  go_wp2_with fail
  refine h.mono ?_
  rintro e w' ⟨rfl, rfl⟩
  go_wp2_with fail
  go_ret
  exact ⟨rfl, rfl⟩
end Go.Proofs.Ytebaojcfmkobjaa
/-
  More words for walks over frames known by facts: jumps to two labels, whole records stored, results. Over any program.
-/
namespace Go.Proofs.Ytebaojcfmkobjaa
open Go.RowKit

section
variable {P : Program} {a : Act} {n : Nat} {M : List (Nat × Value)} {ops : Array Oper} {o : Oper} {w w' : World} {v : Value} {Q : Exit → Act → World → Prop} {K : Act → World → Prop} {rest : List Oper}
def J2 (l0 l1 : Nat) (I0 : Act → World → Prop) (I1 : Act → World → Prop) (l : Nat) (a : Act) (w : World) : Prop := (l = l0 ∧ I0 a w) ∨ (l = l1 ∧ I1 a w)
theorem J2.l0 {l0 l1 : Nat} {I0 I1 : Act → World → Prop} (h : I0 a w) : J2 l0 l1 I0 I1 l0 a w := .inl ⟨rfl, h⟩
theorem J2.l1 {l0 l1 : Nat} {I0 I1 : Act → World → Prop} (h : I1 a w) : J2 l0 l1 I0 I1 l1 a w := .inr ⟨rfl, h⟩
theorem jumps_mono {c : Code} {J J' : Nat → Act → World → Prop} (h : c.wp P (Exit.jumps J Q) a w) (hj : ∀ l a w, J l a w → J' l a w) : c.wp P (Exit.jumps J' Q) a w :=
  wp_mono h fun e a' w' h => by
    cases e with
    | goto l' => exact hj _ _ _ h
    | _ => exact h
/-- A scope with a label that only ends (l0), and one that is come back to (l1), with a number that falls. -/
theorem scope_two {c R0 R1 : Code} (l0 l1 : Nat) (hne : l1 ≠ l0) (I0 : Act → World → Prop) (I1 : Nat → Act → World → Prop) (f0 : findLabel c l0 = some (Code.skip.seq R0)) (f1 : findLabel c l1 = some (Code.skip.seq R1))
    (p0 : ∀ J a w, I0 a w → R0.wp P (Exit.jumps J Q) a w)
    (p1 : ∀ m a w, I1 m a w → R1.wp P (Exit.jumps (J2 l0 l1 I0 (fun a' w' => ∃ m', m' < m ∧ I1 m' a' w')) Q) a w)
    (first : (∀ m a w, I1 m a w → R1.wp P (Exit.jumps (J2 l0 l1 I0 (fun a' w' => ∃ m', I1 m' a' w')) Q) a w) → c.wp P (Exit.jumps (J2 l0 l1 I0 (fun a' w' => ∃ m', I1 m' a' w')) Q) a w) : (Code.scope c).wp P Q a w := by
  refine scope_many (fun l => if l = l0 then R0 else R1) (fun l m a w => (l = l0 ∧ m = 0 ∧ I0 a w) ∨ (∃ q, l = l1 ∧ m = q + 1 ∧ I1 q a w)) ?_ ?_ ?_
  · rintro l m a w (⟨rfl, _, _⟩ | ⟨q, rfl, _, _⟩)
    · simpa using f0
    · simpa [hne] using f1
  · rintro l m a w (⟨rfl, _, h⟩ | ⟨q, rfl, rfl, h⟩)
    · simp only [if_pos rfl]; exact p0 _ a w h
    · simp only [if_neg hne]
      refine jumps_mono (p1 q a w h) ?_
      rintro l a w (⟨rfl, h⟩ | ⟨rfl, m', hm, h⟩)
      · exact ⟨0, by omega, .inl ⟨rfl, rfl, h⟩⟩
      · exact ⟨m' + 1, by omega, .inr ⟨m', rfl, rfl, h⟩⟩
  · intro _
    refine jumps_mono (first fun m a w h => jumps_mono (p1 m a w h) ?_) ?_
    · rintro l a w (⟨rfl, h⟩ | ⟨rfl, m', _, h⟩)
      · exact .inl ⟨rfl, h⟩
      · exact .inr ⟨rfl, m', h⟩
    · rintro l a w (⟨rfl, h⟩ | ⟨rfl, m', h⟩)
      · exact ⟨0, .inl ⟨rfl, rfl, h⟩⟩
      · exact ⟨m' + 1, .inr ⟨m', rfl, rfl, h⟩⟩
theorem u_ptr {T : TypeId} {p : Addr} (h : P.underlying T = some (.pointer (P.pointee T))) (w : World) : (binOp .eql T (.pointer (some p)) (.pointer none)).run P w = .ok (.bool false) w := by
  rw [run_eql_pointer_nil w T (some p) h]; rfl
theorem g_ptr {T : TypeId} {x : Operand} {p : Addr} (w : World) : (eqGuard .eql T x (.const (.pointer none)) (.pointer (some p)) (.pointer none)).run P w = .ok () w := by
  simp [eqGuard, go_sem]
theorem ret_of {fn : Func} {R : Ending → World → Prop} {t : Nat} (hres : fn.results = #[.tmp t]) (hM : Frm a n M) (hl : lk M t = some v) (hR : R (.returned v) w) : bodyPost P fn R .ret a w :=
  bodyPost_ret (results_tmp hres _ _ _) hM.2.1 (by rw [show a.tmps.getD t undef = v from hM.ev hl]; exact hR)
theorem s_putrow {T : TypeId} {x y : Operand} {g : Nat} {t : TypeId} {cs C : Array Value} (hM : Frm a n M) (hg : o.guard = none) (hd : o.dst = none) (ho : o.op = .store T x y) (hx : opv M x = some (.pointer (some ⟨g, 0, none⟩))) (hy : opv M y = some (.agg C))
    (hb : Blk w g t cs) (hz : (P.info? T).map (·.size) = some C.size) (hs : cs.size = C.size) (h1 : ∀ u ∈ C.toList, u.oneCell' = true)
    (h : ∀ w', Blk w' g t C → w.grownBy w' (some g) → wpSeg P ops Q K rest a w') : wpSeg P ops Q K (o :: rest) a w := by
  unfold wpSeg
  rw [if_pos (by simp [Region.wanted, hg])]
  refine .inl (wp_store_row T x y ho g (hM.evo hx) t cs (.agg C) (hM.evo hy) hb hz hs h1 fun w' q1 q2 => ?_)
  rw [hd]
  exact h w' q1 q2
theorem ev_alloc {T : TypeId} {Z : Array Value} (ho : o.op = .alloc T) (hz : ∀ w, (Instr.alloc T true (.tuple #[])).run P w = .ok (.pointer (some ⟨w.heap.size, 0, none⟩)) (w.alloc (.cells Z T))) :
    (execOp a.eval o).run P w = .ok (.value ((fun g => Value.pointer (some ⟨g, 0, none⟩)) w.heap.size)) (w.alloc (.cells Z T)) := by
  simp only [execOp, ho]
  simp [Sem.run_bind, hz]
end
end Go.Proofs.Ytebaojcfmkobjaa
/-
  Contracts: what a judge asks by a book (by, is, known), and the reference's by.
-/
namespace Go.Proofs.Ytebaojcfmkobjaa
open Go.RowKit

set_option maxHeartbeats 1000000 in
theorem judge_by {G : Nat → Prop} {g : Nat} {L : List (List UInt8)} {sg : Int × Int → Bool} {A : Option Addr} {n c : Nat} {ls : List Int} (who d : Int) (w : World) (h : BkI G w g L sg) (hs : Sl w 1 A n (ints ls)) (hn : n ≤ 9223372036854775807) {r : Bool} (hr : Hid (byB sg ls who d = r)) :
    Calls Try.prog 70 #[.agg #[.pointer (some ⟨g, 0, none⟩), .slice A n c], .int .i64 who, .int .i64 d] w fun e w' => e = .returned (.bool r) ∧ Below w.heap.size w w' := by
  have hb0 := below_alloc_ w (.cells #[.pointer (some ⟨g, 0, none⟩), .slice A n c] 80)
  have HB := hide (h.below hb0)
  have HL := hide (hs.below hb0)
  have HBW := hide hb0
  clear h hs hb0
  go_enter Try.func70, Try.ntmps70
  go_wp2_with fail
  refine (book_Signed who d _ HB.out).mono ?_
  rintro e w' ⟨rfl, rfl⟩
  cases hsg : sg (who, d) with
  | true =>
    have e1 : r = true := by rw [← hr.out, byB, hsg]; rfl
    subst e1
    go_wp2_with fail
    go_ret
    exact ⟨rfl, HBW.out⟩
  | false =>
    have e1 : r = decide (who ∈ ls) := by rw [← hr.out, byB, hsg]; rfl
    subst e1
    go_wp2_with fail
    refine (slices_Contains_int A n c who ls _ HL.out hn).mono ?_
    rintro e w' ⟨rfl, rfl⟩
    go_wp2_with fail
    go_ret
    exact ⟨rfl, HBW.out⟩
set_option maxHeartbeats 1000000 in
theorem judge_is {G : Nat → Prop} {g : Nat} {L : List (List UInt8)} {sg : Int × Int → Bool} {A B : Option Addr} {n c m k : Nat} {x : List UInt8} (d : Int) (w : World) (h : BkI G w g L sg) (hs : Sl w 1 B m (bytes8 x)) (hm : m ≤ 9223372036854775807) (hd : 1 ≤ d) {r : Bool} (hr : Hid (isB L d x = r)) :
    Calls Try.prog 69 #[.agg #[.pointer (some ⟨g, 0, none⟩), .slice A n c], .int .i64 d, .slice B m k, .int .i64 0] w fun e w' => e = .returned (.bool r) ∧ Below w.heap.size w w' := by
  have hb0 := below_alloc_ w (.cells #[.pointer (some ⟨g, 0, none⟩), .slice A n c] 80)
  have HB := hide (h.below hb0)
  have HL := hide (hs.below hb0)
  have HBW := hide hb0
  clear h hs hb0
  go_enter Try.func69, Try.ntmps69
  go_wp2_with fail
  refine (book_Find _ HB.out HL.out hm).mono ?_
  rintro e w' ⟨rfl, q, rfl⟩
  have HBQ := hide (below_drewN HBW.out q)
  obtain ⟨o, ho⟩ : ∃ o, fnd L x = o := ⟨_, rfl⟩
  have hr2 := hr.out
  unfold isB at hr2
  rw [ho] at hr2
  rw [ho]
  have HR2 := hide hr2
  clear ho hr2 hr
  cases o with
  | none =>
    have e1 : r = false := by rw [← HR2.out]; exact decide_eq_false (fun e => by simp only [fndN] at e; omega)
    subst e1
    simp only [fndN, fndE]
    go_wp2_with fail
    go_ret
    exact ⟨rfl, HBQ.out⟩
  | some i =>
    simp only [fndN, fndE] at HR2 ⊢
    have e1 : ((i : Int) + 1 == d) = r := by rw [← HR2.out]; by_cases h : (i : Int) + 1 = d <;> simp [h]
    go_wp2_with fail
    go_ret
    exact ⟨rfl, HBQ.out⟩
theorem known_step {L : List (List UInt8)} {ds : List Int} {k : Nat} {u : Int} (hu : ds[k]? = some u) : knownB L (ds.drop k) = (decide (1 ≤ u ∧ u ≤ (L.length : Int)) && knownB L (ds.drop (k + 1))) := by
  rw [drop_at hu]; rfl
set_option maxHeartbeats 1000000 in
theorem judge_known {G : Nat → Prop} {g : Nat} {L : List (List UInt8)} {sg : Int × Int → Bool} {A B : Option Addr} {n c m k : Nat} {ds : List Int} (w : World) (h : BkI G w g L sg) (hs : Sl w 1 B m (ints ds)) (hm : m ≤ 9223372036854775807) {r : Bool} (hr : Hid (knownB L ds = r)) :
    Calls Try.prog 73 #[.agg #[.pointer (some ⟨g, 0, none⟩), .slice A n c], .slice B m k] w fun e w' => e = .returned (.bool r) ∧ Below w.heap.size w w' := by
  have hb0 := below_alloc_ w (.cells #[.pointer (some ⟨g, 0, none⟩), .slice A n c] 80)
  have HB := hide (h.below hb0)
  have HL := hide (hs.below hb0)
  have HBW := hide hb0
  have HN := hide hs.ilen
  clear h hs hb0
  go_enter Try.func73, Try.ntmps73
  go_wp2_with fail
  go_loop [9] (fun i => ∃ k : Nat, k ≤ m ∧ i = .int .i64 k ∧ Hid (knownB L (ds.drop k) = r)) (fun i => m - (intOf i).toNat)
  case atStart => exact ⟨0, Nat.zero_le _, rfl, hr⟩
  case round =>
    obtain ⟨k, hk, rfl, HX⟩ := hrel
    by_cases hlt : k < m
    · obtain ⟨b, off, u, rfl, HU, hc, _⟩ := HL.out.int hlt
      have hst := known_step (L := L) HU.out
      rw [HX.out] at hst
      have HST := hide hst
      clear hst
      by_cases h1 : u < 1
      · have e1 : r = false := by rw [HST.out, decide_eq_false (by omega)]; rfl
        subst e1
        have hd1 : decide (u < 1) = true := decide_eq_true h1
        go_wp2_with fail
        go_ret
        exact ⟨rfl, HBW.out⟩
      · have hd1 : decide (u < 1) = false := decide_eq_false h1
        go_wp2_with fail
        refine (book_Count _ HB.out).mono ?_
        rintro e w' ⟨rfl, rfl⟩
        by_cases h2 : (L.length : Int) < u
        · have e1 : r = false := by rw [HST.out, decide_eq_false (by omega)]; rfl
          subst e1
          have hd2 : decide ((L.length : Int) < u) = true := decide_eq_true h2
          go_wp2_with fail
          go_ret
          exact ⟨rfl, HBW.out⟩
        · have hd2 : decide ((L.length : Int) < u) = false := decide_eq_false h2
          have HT : Hid (knownB L (ds.drop (k + 1)) = r) := by have := HST.out; rw [decide_eq_true (show 1 ≤ u ∧ u ≤ (L.length : Int) by omega), Bool.true_and] at this; exact this.symm
          go_wp2_with fail
          go_round
          case rel => exact ⟨k + 1, by omega, by go_num, HT⟩
          case measure => simp [intOf]; omega
    · obtain rfl : k = m := by omega
      have e1 : r = true := by rw [← HX.out, ← HN.out, List.drop_length]; rfl
      subst e1
      go_wp2_with fail
      go_ret
      exact ⟨rfl, HBW.out⟩
end Go.Proofs.Ytebaojcfmkobjaa
