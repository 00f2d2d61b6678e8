/-
  Texts joined: words and contracts that later texts use; lemmas alone, no conditions of a statement.
-/
import Derived.Test.YtebaojcfmkobjaaGr19
import Derived.Test.YtebaojcfmkobjaaGr09
import Derived.Deep.RegionHeld3
import Derived.Deep.RegionLaw
import Derived.Deep.DeepCutAuto
import Derived.StillTailTactics
set_option linter.unusedVariables false
set_option linter.unusedSimpArgs false
/-
  Contracts of package book: New, has, Count, Signed, Sign, Find.
-/
namespace Go.Proofs.Ytebaojcfmkobjaa
open Go.RowKit

theorem isPair_sign : IsPair Try.prog 78 3 3 ((Try.prog.fieldsOf 78).getD 0 default) ((Try.prog.fieldsOf 78).getD 1 default) where
  k := by kernel_rfl
  e0 := by kernel_rfl
  e1 := by kernel_rfl
  o0 := by kernel_rfl
  o1 := by kernel_rfl
  u0 := by kernel_rfl
  u1 := by kernel_rfl
  n0 := by decide +kernel
  n1 := by decide +kernel
  h := by kernel_rfl
theorem keys_sign : KeyFam Try.prog 78 pairV := keys_pair isPair_sign
theorem keys_str : KeyFam Try.prog 9 Value.string := keys_string (by kernel_rfl)
theorem under_numbers : Try.prog.underlying 65 = some (.map 9 3) := by kernel_rfl
theorem under_signs : Try.prog.underlying 66 = some (.map 78 4) := by kernel_rfl
theorem zero_int (w : World) : (zeroValue 3).run Try.prog w = .ok (.int .i64 0) w := by kernel_rfl
theorem zero_bool (w : World) : (zeroValue 4).run Try.prog w = .ok (.bool false) w := by kernel_rfl

/-- A slice of rows' length and a book's cells, as the walk needs them. -/
theorem BkI.open_ {G : Nat → Prop} {w : World} {g : Nat} {L : List (List UInt8)} {sg : Int × Int → Bool} (h : BkI G w g L sg) :
    ∃ m1 m2 A c, w.cell? ⟨g, 0, none⟩ = some (.map (some m1)) ∧ w.cell? ⟨g, 1, none⟩ = some (.slice A L.length c) ∧ w.cell? ⟨g, 2, none⟩ = some (.map (some m2)) ∧ L.length ≤ 9223372036854775807 ∧ Mp w m1 Value.string (numF L) ∧ Mp w m2 pairV (sgF sg) := by
  obtain ⟨_, _, _, F, E, m1, m2, v, _, _, _, _, _, _, _, hb, hm1, hm2, hr⟩ := h
  obtain ⟨A, c, rfl, hl⟩ := hr.val
  exact ⟨m1, m2, A, c, hb.at_ rfl, hb.at_ rfl, hb.at_ rfl, hl, hm1, hm2⟩

set_option maxHeartbeats 400000 in
theorem book_New (w : World) : Calls Try.prog 16 #[] w fun e w' => ∃ g G, e = .returned (.pointer (some ⟨g, 0, none⟩)) ∧ BkI G w' g [] (fun _ => false) ∧ (∀ b, G b → w.heap.size ≤ b) ∧ Below w.heap.size w w' := by
  have hmm := @run_makeMap Try.prog
  go_enter Try.func16, Try.ntmps16
  go_wp2_with fail
  go_ret
  refine ⟨_, fun b => w.heap.size ≤ b ∧ b < w.heap.size + 3, rfl, ⟨fun b hb => by simp; omega, ⟨by omega, by omega⟩, by simp, fun b => w.heap.size ≤ b ∧ b < w.heap.size + 3, fun _ => False, w.heap.size, w.heap.size + 1, .slice none 0 0, fun _ => id, fun _ hf => hf.elim, fun _ _ => id, ⟨by omega, by omega⟩, ⟨by omega, by omega⟩, ⟨by omega, by omega⟩, by omega, ?_, ?_, ?_, RwF.nil_⟩, fun b hb => hb.1, ?_⟩
  · have := Blk.new2 (w.alloc (.map #[] 0)) (.map #[] 0) 68 #[.map (some w.heap.size), .slice none 0 0, .map (some (w.heap.size + 1))]
    simpa using this
  · exact (((Mp.made w Value.string).alloc _).alloc _).congr (fun k => rfl)
  · have := (Mp.made (w.alloc (.map #[] 0)) pairV).alloc (.cells #[.map (some w.heap.size), .slice none 0 0, .map (some (w.heap.size + 1))] 68)
    simp only [show (w.alloc (.map #[] 0)).heap.size = w.heap.size + 1 by simp] at this
    exact this.congr (fun k => rfl)
  · exact (((Below.refl _ _).alloc (Nat.le_refl _) _).alloc (by simp) _).alloc (by simp; omega) _

set_option maxHeartbeats 400000 in
theorem book_Count {G : Nat → Prop} {g : Nat} {L : List (List UInt8)} {sg : Int × Int → Bool} (w : World) (h : BkI G w g L sg) :
    Calls Try.prog 27 #[.pointer (some ⟨g, 0, none⟩)] w fun e w' => e = .returned (.int .i64 (L.length : Int)) ∧ w = w' := by
  obtain ⟨m1, m2, A, c, _, c1, _, hl, _⟩ := h.open_
  clear h
  go_enter Try.func27, Try.ntmps27
  go_wp2_with fail
  go_ret
  exact ⟨rfl, rfl⟩

set_option maxHeartbeats 400000 in
theorem book_has {G : Nat → Prop} {g : Nat} {L : List (List UInt8)} {sg : Int × Int → Bool} (d : Int) (w : World) (h : BkI G w g L sg) {r : Bool} (hr : Hid (decide (1 ≤ d ∧ d ≤ (L.length : Int)) = r)) :
    Calls Try.prog 42 #[.pointer (some ⟨g, 0, none⟩), .int .i64 d] w fun e w' => e = .returned (.bool r) ∧ w = w' := by
  obtain ⟨m1, m2, A, c, _, c1, _, hl, _⟩ := h.open_
  clear h
  generalize L.length = n at c1 hl hr ⊢
  by_cases h1 : 1 ≤ d
  · have hd1 : decide (1 ≤ d) = true := by simpa using h1
    have hd1' : decide (d < 1) = false := by simp; omega
    by_cases h2 : d ≤ (n : Int)
    · have HR : Hid (true = r) := by rw [Hid, ← hr.out]; simp [h1, h2]
      have hd2 : decide (d ≤ (n : Int)) = true := by simpa using h2
      clear hr
      go_enter Try.func42, Try.ntmps42
      go_wp2_with fail
      go_ret
      exact ⟨ret_bool HR.out, rfl⟩
    · have HR : Hid (false = r) := by rw [Hid, ← hr.out]; simp; omega
      have hd2 : decide (d ≤ (n : Int)) = false := by simp; omega
      clear hr
      go_enter Try.func42, Try.ntmps42
      go_wp2_with fail
      go_ret
      exact ⟨ret_bool HR.out, rfl⟩
  · have hd1 : decide (1 ≤ d) = false := by simpa using h1
    have HR : Hid (false = r) := by rw [Hid, ← hr.out]; simp; omega
    clear hr
    go_enter Try.func42, Try.ntmps42
    go_wp2_with fail
    go_ret
    exact ⟨ret_bool HR.out, rfl⟩
set_option maxHeartbeats 400000 in
theorem book_Signed {G : Nat → Prop} {g : Nat} {L : List (List UInt8)} {sg : Int × Int → Bool} (who d : Int) (w : World) (h : BkI G w g L sg) :
    Calls Try.prog 94 #[.pointer (some ⟨g, 0, none⟩), .int .i64 who, .int .i64 d] w fun e w' => e = .returned (.bool (sg (who, d))) ∧ w = w' := by
  obtain ⟨m1, m2, A, c, _, _, c2, hl, _, hm⟩ := h.open_
  clear h
  have hr := hm.look keys_sign under_signs (zero_bool w) (who, d) false
  have e : (sgF sg (who, d)).getD (.bool false) = .bool (sg (who, d)) := by
    unfold sgF
    cases sg (who, d) <;> rfl
  rw [e] at hr
  simp only [pairV, Bool.false_eq_true, if_false] at hr
  clear e hm
  go_enter Try.func94, Try.ntmps94
  go_wp2_with fail
  go_ret
  exact ⟨rfl, rfl⟩

set_option maxHeartbeats 1000000 in
theorem book_Sign {G : Nat → Prop} {g : Nat} {L : List (List UInt8)} {sg : Int × Int → Bool} (who d : Int) (w : World) (h : BkI G w g L sg) {r : Int} (hr : Hid (sgR L.length who d = r)) :
    Calls Try.prog 20 #[.pointer (some ⟨g, 0, none⟩), .int .i64 who, .int .i64 d] w fun e w' => e = .returned (.int .i64 r) ∧ BkI G w' g L (sgUp r sg (who, d)) ∧ Chg G w w' := by
  by_cases h0 : 1 ≤ who ∧ who ≤ 16
  · have hw1 : decide (who < 1) = false := by simp; omega
    have hw2 : decide (16 < who) = false := by simp; omega
    obtain ⟨p, HP⟩ : ∃ p, Hid (decide (1 ≤ d ∧ d ≤ (L.length : Int)) = p) := ⟨_, rfl⟩
    have CH := hide (book_has d w h HP)
    cases p with
    | false =>
      have HR : Hid (3 = r) := by have := HP.out; rw [decide_eq_false_iff_not] at this; rw [Hid, ← hr.out, sgR, if_pos h0, if_neg this]
      obtain rfl := HR.out
      have HB : Hid (BkI G w g L (sgUp 3 sg (who, d)) ∧ Chg G w w) := ⟨h, Chg.refl _ _⟩
      clear h h0 hr HR
      go_enter Try.func20, Try.ntmps20
      go_wp2_with fail
      refine CH.out.mono ?_
      rintro e w' ⟨rfl, rfl⟩
      go_wp2_with fail
      go_ret
      exact ⟨rfl, HB.out⟩
    | true =>
      have HR : Hid (0 = r) := by have := HP.out; rw [decide_eq_true_eq] at this; rw [Hid, ← hr.out, sgR, if_pos h0, if_pos this]
      obtain ⟨hlt, hin, hsm, F, E, m1, m2, v, h1, h2, h3, h4, h5, h6, h7, h8, h9, h10, h11⟩ := h
      have c2 : w.cell? ⟨g, 2, none⟩ = some (.map (some m2)) := h8.at_ rfl
      obtain ⟨w1, hrun, hm, hg, hz⟩ := h10.update keys_sign under_signs (who, d) (.bool true)
      obtain rfl := HR.out
      have HB : Hid (BkI G w1 g L (sgUp 0 sg (who, d)) ∧ Chg G w w1) := by
        have hc : Chg (fun b => b = m2) w w1 := Chg.of_grown hg (fun g e => by injection e with e; exact .inl e.symm)
        have n8 : g ≠ m2 := h10.not_blk h8
        refine ⟨⟨fun b hb => by rw [hz]; exact hlt b hb, hin, hsm, F, E, m1, m2, v, h1, h2, h3, h4, h5, h6, h7, h8.at_block (hc.at_ h8.lt n8), h9.at_ (hc.at_ h9.lt h7), hm.congr (sgF_add sg (who, d)), h11.keep hc.size (fun b hb hF => hc.at_ hb ?_) (fun b hb hE => hc.at_ hb (fun e => by subst e; exact h3 _ h6 hE)) (fun _ => id) (fun _ => id)⟩, hc.mono (fun b hb => by subst hb; exact .inl (h1 _ h6))⟩
        rintro rfl
        exact h11.not_map h10 hF
      simp only [pairV] at hrun
      clear hr HR h0 hlt hin hsm h1 h2 h3 h4 h5 h6 h7 h8 h9 h10 h11 hm hg hz
      go_enter Try.func20, Try.ntmps20
      go_wp2_with fail
      refine CH.out.mono ?_
      rintro e w' ⟨rfl, rfl⟩
      go_wp2_with fail
      go_ret
      exact ⟨rfl, HB.out⟩
  · have HR : Hid (1 = r) := by rw [Hid, ← hr.out, sgR, if_neg h0]
    obtain rfl := HR.out
    have HB : Hid (BkI G w g L (sgUp 1 sg (who, d)) ∧ Chg G w w) := ⟨h, Chg.refl _ _⟩
    have HN := hide h0
    clear h h0 hr HR
    go_enter Try.func20, Try.ntmps20
    go_wp2_with fail
    all_goals
      first
        | (go_ret; exact ⟨rfl, HB.out⟩)
        | (exfalso; exact HN.out ⟨by omega, by omega⟩)
end Go.Proofs.Ytebaojcfmkobjaa
/-
  Contracts of package book: Find, the clone of bytes, Bytes.
-/
namespace Go.Proofs.Ytebaojcfmkobjaa
open Go.RowKit

theorem eql_nil_bytes (w : World) (A : Option Addr) (n c : Nat) : (binOp .eql 60 (.slice A n c) (.slice none 0 0)).run Try.prog w = .ok (.bool A.isNone) w := Lib.run_eql_slice_nil w _ _ A n c 0 0 Try.underlying60
theorem numF_look (L : List (List UInt8)) (x : List UInt8) : (numF L (tx x)).getD (.int .i64 0) = .int .i64 (fndN (fnd L x)) ∧ (numF L (tx x)).isSome = (fnd L x).isSome := by
  unfold numF
  rw [tx_data]
  cases fnd L x <;> exact ⟨rfl, rfl⟩
theorem fndN_some {o : Option Nat} (h : o.isSome = true) : fndE o = 0 := by cases o <;> simp_all [fndE]
theorem fndN_none {o : Option Nat} (h : o.isSome = false) : fndE o = 3 ∧ fndN o = 0 := by cases o <;> simp_all [fndE, fndN]
set_option maxHeartbeats 1000000 in
theorem book_Find {G : Nat → Prop} {g : Nat} {L : List (List UInt8)} {sg : Int × Int → Bool} {A : Option Addr} {n c : Nat} {x : List UInt8} (w : World) (h : BkI G w g L sg) (hs : Sl w 1 A n (bytes8 x)) (hn : n ≤ 9223372036854775807) :
    Calls Try.prog 93 #[.pointer (some ⟨g, 0, none⟩), .slice A n c] w fun e w' => e = .returned (.tuple #[.int .i64 (fndN (fnd L x)), .int .i64 (fndE (fnd L x))]) ∧ ∃ q, w' = w.drewN q := by
  obtain ⟨m1, m2, A1, c1, k0, _, _, hl, hm, _⟩ := h.open_
  clear h
  have hc : ∀ q, (convert 60 9 (.slice A n c)).run Try.prog (w.drewN q) = .ok (.string (tx x)) (w.drewN q) := fun q => run_str_of_bytes _ _ _ _ Try.underlying60 (by kernel_rfl) (by kernel_rfl) (hs.drewN q)
  have hr : ∀ q, (Instr.lookup 65 (.map (some m1)) (.string (tx x)) true).run Try.prog (w.drewN q) = .ok (.tuple #[.int .i64 (fndN (fnd L x)), .bool (fnd L x).isSome]) (w.drewN q) := fun q => by
    have := (hm.drewN q).look keys_str under_numbers (zero_int _) (tx x) true
    obtain ⟨e1, e2⟩ := numF_look L x
    rw [e1, e2] at this
    exact this
  clear hm hs
  generalize fnd L x = o at hr ⊢
  generalize tx x = s at hc hr
  obtain ⟨p, HP⟩ : ∃ p, Hid (o.isSome = p) := ⟨_, rfl⟩
  rw [HP.out] at hr
  cases p with
  | true =>
    have HE := hide (fndN_some HP.out)
    rw [HE.out]
    clear HP
    go_enter Try.func93, Try.ntmps93
    go_wp2_with fail
    go_quiet (fail)
    go_wp2_with fail
    go_ret2
    exact ⟨rfl, _, rfl⟩
  | false =>
    have HE := hide (fndN_none HP.out)
    rw [HE.out.1, HE.out.2]
    rw [HE.out.2] at hr
    clear HP
    go_enter Try.func93, Try.ntmps93
    go_wp2_with fail
    go_quiet (fail)
    go_wp2_with fail
    go_ret2
    exact ⟨rfl, _, rfl⟩

set_option maxHeartbeats 1000000 in
set_option maxRecDepth 100000 in
/-- slices.Clone of bytes: new bytes, or nil. -/
theorem clone_bytes {A : Option Addr} {n c : Nat} {x : List UInt8} (w : World) (hs : Sl w 1 A n (bytes8 x)) (hn : n ≤ 140737488355328) :
    Calls Try.prog 56 #[.slice A n c] w fun e w' => ∃ v, e = .returned v ∧ w'.ownsRow w.heap.size 5 1 v n (bytes8 x) ∧ Below w.heap.size w w' := by
  have HN := hide hn
  clear hn
  cases hA : A with
  | none =>
    subst hA
    have h0 : n = 0 := by
      rcases Nat.eq_zero_or_pos n with h | h
      · exact h
      · obtain ⟨b, off, e, _⟩ := hs.2 h
        cases e
    subst h0
    have hx : x = [] := List.eq_nil_of_length_eq_zero hs.blen
    subst hx
    clear hs
    have he := fun w => eql_nil_bytes w none 0 c
    simp only [Option.isNone_none] at he
    go_enter Try.func56, Try.ntmps56
    go_wp2_with fail
    go_ret
    exact ⟨_, rfl, World.ownsRow_nil _ _ _ _, Below.refl _ _⟩
  | some a =>
    subst hA
    obtain ⟨i0, hi, hz0, hz1, hz2⟩ := info_parts Try.infoByte
    have HS := hide hs
    clear hs
    have he := fun w => eql_nil_bytes w (some a) n c
    simp only [Option.isNone_some] at he
    have he := fun w => eql_nil_bytes w none 0 c
    simp only [Option.isNone_none] at he
    go_enter Try.func56, Try.ntmps56
    go_wp2_with (at_builtin; refine wpList_append_any _ rfl _ _ 60 rfl w.heap.size 5 i0 (.int .u8 0) 1 1 Try.underlying60 hi hz0 hz1 hz2 rfl (by decide) _ 0 [] rfl (own_of_blk (size := 1) (n := 0) (cs := #[]) (Blk.new _ _ _) (Nat.le_refl _) rfl (by omega)) (some a) n c (bytes8 x) rfl (HS.out.alloc _) (bytes8_one _) (by have := HN.out; unfold maxLen; omega) (by have := HN.out; omega) (by simp) ?_)
    intro v w1 hown hg
    go_wp2_with fail
    go_ret
    refine ⟨v, rfl, by simpa using hown, ((Below.refl _ _).alloc (Nat.le_refl _) _).grown hg (by simp) (fun g e => ?_)⟩
    simp [Value.ownBlock] at e
    omega

theorem BkI.row {G : Nat → Prop} {w : World} {g : Nat} {L : List (List UInt8)} {sg : Int × Int → Bool} (h : BkI G w g L sg) {i : Nat} {x : List UInt8} (hx : L[i]? = some x) :
    ∃ b c A1 c1, w.cell? ⟨g, 1, none⟩ = some (.slice (some ⟨b, 0, none⟩) L.length c) ∧ w.cell? ⟨b, i, none⟩ = some (.slice A1 x.length c1) ∧ Sl w 1 A1 x.length (bytes8 x) ∧ x.length ≤ 1048576 := by
  have hs := h.sm x (mem_of_at hx)
  obtain ⟨_, _, _, F, E, m1, m2, v, _, _, _, _, _, _, _, hb, hm1, hm2, hr⟩ := h
  obtain ⟨b, c, A1, c1, rfl, _, h1, h2, h3, h4⟩ := hr.at_ hx
  exact ⟨b, c, A1, c1, hb.at_ rfl, h1, h4, hs⟩
end Go.Proofs.Ytebaojcfmkobjaa
/-
  Contracts of package book: Digest.
-/
namespace Go.Proofs.Ytebaojcfmkobjaa
open Go.RowKit

theorem infoRow : (Try.prog.info? 60).map (fun i => (i.zero, i.size, i.bytes)) = some (some (.slice none 0 0), 1, 24) := by kernel_rfl

/-- A book with one thing more, put together. -/
theorem bk_grow {G F E : Nat → Prop} {g m1 m2 N n c1 c6 c8 : Nat} {A1 A6 A8 : Option Addr} {L : List (List UInt8)} {sg : Int × Int → Bool} {x : List UInt8} {els : List Value} {w w6 wa w8 w10 : World}
    (HG : (∀ b, G b → b < w.heap.size) ∧ G g ∧ (∀ y ∈ L, y.length ≤ 1048576) ∧ (∀ b, F b → G b) ∧ (∀ b, E b → G b) ∧ (∀ b, F b → ¬ E b) ∧ F g ∧ F m1 ∧ F m2 ∧ m1 ≠ m2)
    (hN : L.length = N) (hn : x.length = n) (hx : n ≤ 1048576) (hm2 : Mp w m2 pairV (sgF sg)) (hm1 : Mp w m1 Value.string (numF L)) (hrow : ∀ b, (Value.slice A1 N c1).ownBlock = some b → F b) (hrw : RwF F E w 60 (.slice A1 N c1) L)
    (hel : ∀ (i : Nat) (y : List UInt8), L[i]? = some y → ∃ u, els[i]? = some u ∧ ElF E w u y) (hells : els.length = N)
    (c6' : Chg (fun _ => False) w w6) (own6 : w6.ownsRow w.heap.size 5 1 (.slice A6 n c6) n (bytes8 x)) (ca : Chg (fun _ => False) w6 wa) (hza : w6.heap.size < wa.heap.size)
    (hg8 : wa.grownBy w8 (Value.slice A1 N c1).ownBlock) (own8 : w8.ownsRow 0 60 1 (.slice A8 (N + 1) c8) (N + 1) (els ++ [.slice A6 n c6])) (hat : (Value.slice A8 (N + 1) c8).ownBlock = (Value.slice A1 N c1).ownBlock ∨ (Value.slice A8 (N + 1) c8).ownBlock = some wa.heap.size)
    (hkb : Blk w g 68 #[.map (some m1), .slice A1 N c1, .map (some m2)])
    (kb8 : Blk w8 g 68 #[.map (some m1), .slice A1 N c1, .map (some m2)])
    (h10 : (w8.setCell ⟨g, 1, none⟩ (.slice A8 (N + 1) c8)).grownBy w10 (some m1)) (hm10 : Mp w10 m1 Value.string (numF (L ++ [x]))) : BkN G g (L ++ [x]) sg w w10 := by
  obtain ⟨hlt, hin, hsm, h1, h2, h3, h4, h5, h6, h7⟩ := HG
  have z1 := c6'.size
  have z2 := hg8.size
  have z3 : (w8.setCell ⟨g, 1, none⟩ (.slice A8 (N + 1) c8)).heap.size = w8.heap.size := by simp [World.setCell]
  have z4 := h10.size
  have hgl := hlt g hin
  have hr1 : (Value.slice A1 N c1).ownBlock ≠ some m1 := hrw.not_map hm1
  have hr2 : (Value.slice A1 N c1).ownBlock ≠ some m2 := hrw.not_map hm2
  have l1 := hm1.lt
  have l2 := hm2.lt
  -- what stays
  have stay : ∀ b, b < w.heap.size → b ≠ g → b ≠ m1 → (Value.slice A1 N c1).ownBlock ≠ some b → w10.heap[b]? = w.heap[b]? := fun b hb n1 n2 n3 => by
    rw [h10.block b (by omega) (by intro e; injection e with e; exact n2 e), Below.heap_setCell w8 _ _ b n1, hg8.block b (by omega) (fun e => n3 e.symm), ca.at_ (by omega) id, c6'.at_ hb id]
  have new8 : ∀ b, w.heap.size ≤ b → b < w8.heap.size → w10.heap[b]? = w8.heap[b]? := fun b hb hb8 => by
    rw [h10.block b (by omega) (by intro e; injection e with e; omega), Below.heap_setCell w8 _ _ b (by show b ≠ g; omega)]
  have new6 : ∀ b, w.heap.size ≤ b → b < w6.heap.size → w10.heap[b]? = w6.heap[b]? := fun b hb hb6 => by
    rw [new8 b hb (by omega), hg8.block b (by omega) (fun e => by have := hlt b (h1 b (hrow b e.symm)); omega), ca.at_ hb6 id]
  have r8 : ∀ b, (Value.slice A8 (N + 1) c8).ownBlock = some b → (F b ∨ b = wa.heap.size) ∧ b ≠ g ∧ b ≠ m1 ∧ b ≠ m2 ∧ b < w8.heap.size := fun b hb => by
    have hl8 := own_in own8 hb
    have ng : b ≠ g := by
      rintro rfl
      exact own_blk_ne own8 kb8 (by decide) hb
    rcases hat with h | h
    · rw [hb] at h
      exact ⟨.inl (hrow b h.symm), ng, fun e => hr1 (by rw [← h, e]), fun e => hr2 (by rw [← h, e]), hl8⟩
    · rw [hb] at h
      injection h with h
      exact ⟨.inr h, ng, by omega, by omega, hl8⟩
  have row10 : ∀ b, (Value.slice A8 (N + 1) c8).ownBlock = some b → w10.heap[b]? = w8.heap[b]? := fun b hb => by
    obtain ⟨_, n1, n2, _, hl8⟩ := r8 b hb
    rw [h10.block b (by omega) (by intro e; injection e with e; exact n2 e), Below.heap_setCell w8 _ _ b n1]
  refine ⟨fun b => G b ∨ (w.heap.size ≤ b ∧ b < w10.heap.size), ⟨?_, .inl hin, ?_, fun b => F b ∨ (Value.slice A8 (N + 1) c8).ownBlock = some b, fun b => E b ∨ (w.heap.size ≤ b ∧ b < w6.heap.size), m1, m2, .slice A8 (N + 1) c8, ?_, ?_, ?_, .inl h4, .inl h5, .inl h6, h7, ?_, hm10, ?_, ?_⟩, ?_, ?_⟩
  · rintro b (hb | hb)
    · have := hlt b hb; omega
    · exact hb.2
  · intro y hy
    rcases List.mem_append.1 hy with hy | hy
    · exact hsm y hy
    · simp at hy; subst hy; omega
  · rintro b (hb | hb)
    · exact .inl (h1 b hb)
    · obtain ⟨h, _, _, _, hl8⟩ := r8 b hb
      rcases h with h | h
      · exact .inl (h1 b h)
      · exact .inr ⟨by omega, by omega⟩
  · rintro b (hb | hb)
    · exact .inl (h2 b hb)
    · exact .inr ⟨hb.1, by omega⟩
  · rintro b (hb | hb) (he | he)
    · exact h3 b hb he
    · have := hlt b (h1 b hb); omega
    · obtain ⟨h, _⟩ := r8 b hb
      rcases h with h | h
      · exact h3 b h he
      · have := hlt b (h2 b he); omega
    · obtain ⟨h, _⟩ := r8 b hb
      rcases h with h | h
      · have := hlt b (h1 b h); omega
      · omega
  · exact (kb8.set_ 1 (.slice A8 (N + 1) c8)).at_block (h10.block g (by rw [z3]; exact kb8.lt) (by intro e; injection e with e; exact hm1.not_blk hkb e))
  · exact hm2.at_ (stay m2 l2 (fun e => hm2.not_blk hkb e.symm) (Ne.symm h7) hr2)
  · refine ⟨A8, c8, els ++ [.slice A6 n c6], by simp [hN], by rw [List.length_append, hN]; exact own_at own8 row10, fun b hb => .inr hb, fun i y hy => ?_⟩
    rcases Nat.lt_or_ge i L.length with hi | hi
    · rw [List.getElem?_append_left hi] at hy
      obtain ⟨u, hu, he⟩ := hel i y hy
      refine ⟨u, by rw [List.getElem?_append_left (by omega)]; exact hu, he.keep (by omega) (fun b hb hE => stay b hb ?_ ?_ ?_) (fun b hb => .inl hb)⟩
      · rintro rfl; exact h3 _ h4 hE
      · rintro rfl; exact h3 _ h5 hE
      · intro e; exact h3 _ (hrow b e) hE
    · have hi' : i = L.length := by have := lt_of_at hy; simp at this; omega
      subst hi'
      have hy' : y = x := by rw [List.getElem?_append_right (Nat.le_refl _)] at hy; simpa using hy.symm
      subst hy'
      refine ⟨.slice A6 n c6, by rw [List.getElem?_append_right (by omega)]; simp [hells, hN], ?_⟩
      exact (ElF.of_own own6).keep (by omega) (fun b hb hE => new6 b hE.1 hE.2) (fun b hb => .inr hb)
  · rintro b (hb | hb)
    · exact .inl hb
    · exact .inr hb.1
  · refine ⟨?_, ?_, ?_, by omega, fun b hb hn => stay b hb ?_ ?_ ?_⟩
    · exact h10.os.trans (hg8.os.trans (ca.os.trans c6'.os))
    · exact h10.tape.trans (hg8.tape.trans (ca.tape.trans c6'.tape))
    · exact h10.output.trans (hg8.output.trans (ca.output.trans c6'.output))
    · rintro rfl; exact hn hin
    · rintro rfl; exact hn (h1 _ h5)
    · intro e; exact hn (h1 b (hrow b e))
end Go.Proofs.Ytebaojcfmkobjaa
/-
  Contracts of package book: Digest.
-/
namespace Go.Proofs.Ytebaojcfmkobjaa
open Go.RowKit

set_option maxRecDepth 100000 in
set_option maxHeartbeats 1000000 in
theorem book_Digest_old {G : Nat → Prop} {g : Nat} {L : List (List UInt8)} {sg : Int × Int → Bool} {A : Option Addr} {n c i : Nat} {x : List UInt8} (w : World) (h : BkI G w g L sg) (hs : Sl w 1 A n (bytes8 x)) (hn : n ≤ 9223372036854775807) (hf : Hid (fnd L x = some i)) :
    Calls Try.prog 30 #[.pointer (some ⟨g, 0, none⟩), .slice A n c] w fun e w' => e = .returned (.tuple #[.int .i64 ((i : Int) + 1), .int .i64 0]) ∧ ∃ q, w' = w.drewN q := by
  obtain ⟨m1, m2, A1, c1, k0, _, _, hl, hm, _⟩ := h.open_
  clear h
  have hc : ∀ q, (convert 60 9 (.slice A n c)).run Try.prog (w.drewN q) = .ok (.string (tx x)) (w.drewN q) := fun q => run_str_of_bytes _ _ _ _ Try.underlying60 (by kernel_rfl) (by kernel_rfl) (hs.drewN q)
  have hr : ∀ q, (Instr.lookup 65 (.map (some m1)) (.string (tx x)) true).run Try.prog (w.drewN q) = .ok (.tuple #[.int .i64 ((i : Int) + 1), .bool true]) (w.drewN q) := fun q => by
    have := (hm.drewN q).look keys_str under_numbers (zero_int _) (tx x) true
    obtain ⟨e1, e2⟩ := numF_look L x
    rw [e1, e2, hf.out] at this
    exact this
  clear hm hs hf
  generalize tx x = s at hc hr
  go_enter Try.func30, Try.ntmps30
  go_wp2_with fail
  refine scope_loop 0 (fun a w' => ∃ (u0 u1 u2 u3 u4 u5 u7 u8 u9 u10 u11 u12 u13 u14 u15 u16 u17 u18 u19 u20 u21 u22 u23 u24 u25 u26 u27 u28 u29 u30 u31 u32 u33 u34 u35 u36 u37 u38 u39 u40 u41 u42 u43 u44 u45 u46 u47 u48 : Value), a = { tmps := #[u0, u1, u2, u3, u4, u5, .int .i64 ((i : Int) + 1), u7, u8, u9, u10, u11, u12, u13, u14, u15, u16, u17, u18, u19, u20, u21, u22, u23, u24, u25, u26, u27, u28, u29, u30, u31, u32, u33, u34, u35, u36, u37, u38, u39, u40, u41, u42, u43, u44, u45, u46, u47, u48], defers := [] } ∧ Hid (∃ q, w' = w.drewN q)) (fun _ _ => 0) rfl ?_ ?_
  · rintro a w' ⟨u0, u1, u2, u3, u4, u5, u7, u8, u9, u10, u11, u12, u13, u14, u15, u16, u17, u18, u19, u20, u21, u22, u23, u24, u25, u26, u27, u28, u29, u30, u31, u32, u33, u34, u35, u36, u37, u38, u39, u40, u41, u42, u43, u44, u45, u46, u47, u48, rfl, HF⟩
    go_wp2_with fail
    try rw [Exit.jump_ret]
    go_ret2
    exact ⟨rfl, HF.out⟩
  · intro H
    go_wp2_with fail
    go_quiet (fail)
    go_wp2_with fail
    go_step3
    repeat (first | refine Exit.then_goto ?_ | refine Exit.inBlock_goto ?_)
    exact Exit.jump_goto ⟨_, _, _, _, _, _, _, _, _, _, _, _, _, _, _, _, _, _, _, _, _, _, _, _, _, _, _, _, _, _, _, _, _, _, _, _, _, _, _, _, _, _, _, _, _, _, _, _, rfl, ⟨_, rfl⟩⟩
set_option maxRecDepth 100000 in
set_option maxHeartbeats 2000000 in
theorem book_Digest_new {G : Nat → Prop} {g : Nat} {L : List (List UInt8)} {sg : Int × Int → Bool} {A : Option Addr} {n c : Nat} {x : List UInt8} (w : World) (h : BkI G w g L sg) (hs : Sl w 1 A n (bytes8 x)) (hn : Hid (n ≤ 1048576)) (hf : Hid (fnd L x = none)) (hL : Hid (L.length ≤ 65535)) (hA : Hid (0 < n → ∀ b off, A = some ⟨b, off, none⟩ → ¬ G b)) :
    Calls Try.prog 30 #[.pointer (some ⟨g, 0, none⟩), .slice A n c] w fun e w' => e = .returned (.tuple #[.int .i64 ((L.length : Int) + 1), .int .i64 0]) ∧ BkN G g (L ++ [x]) sg w w' := by
  obtain ⟨i0, hi, hz0, hz1, hz2⟩ := info_parts infoRow
  have hlen := hs.blen
  obtain ⟨hlt, hin, hsm, F, E, m1, m2, v, h1, h2, h3, h4, h5, h6, h7, h8, h9, h10, h11⟩ := h
  obtain ⟨A1, c1, els, rfl, hown, hrow, hel⟩ := id h11
  have HG := hide (And.intro hlt (And.intro hin (And.intro hsm (And.intro h1 (And.intro h2 (And.intro h3 (And.intro h4 (And.intro h5 (And.intro h6 h7)))))))))
  clear hlt hin hsm h1 h2 h3 h4 h5 h6 h7
  have HM1 := hide h9
  have HM2 := hide h10
  have HRW := hide h11
  have HBK := hide h8
  have HOW := hide hown
  have HROW := hide hrow
  have HEL := hide hel
  have HS := hide hs
  have k0 : w.cell? ⟨g, 0, none⟩ = some (.map (some m1)) := h8.at_ rfl
  have hc : ∀ q, (convert 60 9 (.slice A n c)).run Try.prog (w.drewN q) = .ok (.string (tx x)) (w.drewN q) := fun q => run_str_of_bytes _ _ _ _ Try.underlying60 (by kernel_rfl) (by kernel_rfl) (hs.drewN q)
  have hr : ∀ q, (Instr.lookup 65 (.map (some m1)) (.string (tx x)) true).run Try.prog (w.drewN q) = .ok (.tuple #[.int .i64 0, .bool false]) (w.drewN q) := fun q => by
    have := (h9.drewN q).look keys_str under_numbers (zero_int _) (tx x) true
    obtain ⟨e1, e2⟩ := numF_look L x
    rw [e1, e2, hf.out] at this
    exact this
  clear h8 h9 h10 h11 hown hrow hel hs
  obtain ⟨s, HSX⟩ : ∃ s, Hid (tx x = s) := ⟨_, rfl⟩
  rw [HSX.out] at hc hr
  obtain ⟨N, HN⟩ : ∃ N, Hid (L.length = N) := ⟨_, rfl⟩
  rw [HN.out] at HBK HOW hL ⊢
  have hNb : ((N : Int) == 65536) = false := by have := hL.out; simp; omega
  have hNm : N ≤ 9223372036854775807 := by have := hL.out; omega
  go_enter Try.func30, Try.ntmps30
  go_wp2_with fail
  refine scope_loop 0 (fun a w' => ∃ (u0 u1 u2 u3 u4 u5 u7 u8 u9 u10 u11 u12 u13 u14 u15 u16 u17 u18 u19 u20 u21 u22 u23 u24 u25 u26 u27 u28 u29 u30 u31 u32 u33 u34 u35 u36 u37 u38 u39 u40 u41 u42 u43 u44 u45 u46 u47 u48 : Value), a = { tmps := #[u0, u1, u2, u3, u4, u5, .int .i64 ((N : Int) + 1), u7, u8, u9, u10, u11, u12, u13, u14, u15, u16, u17, u18, u19, u20, u21, u22, u23, u24, u25, u26, u27, u28, u29, u30, u31, u32, u33, u34, u35, u36, u37, u38, u39, u40, u41, u42, u43, u44, u45, u46, u47, u48], defers := [] } ∧ Hid (BkN G g (L ++ [x]) sg w w')) (fun _ _ => 0) rfl ?_ ?_
  · rintro a w' ⟨u0, u1, u2, u3, u4, u5, u7, u8, u9, u10, u11, u12, u13, u14, u15, u16, u17, u18, u19, u20, u21, u22, u23, u24, u25, u26, u27, u28, u29, u30, u31, u32, u33, u34, u35, u36, u37, u38, u39, u40, u41, u42, u43, u44, u45, u46, u47, u48, rfl, HF⟩
    go_wp2_with fail
    try rw [Exit.jump_ret]
    go_ret2
    exact ⟨rfl, HF.out⟩
  · intro H
    go_wp2_with fail
    go_quiet (fail)
    have k1 : (w.drewN nq).cell? ⟨g, 1, none⟩ = some (.slice A1 N c1) := (HBK.out.drewN nq).at_ rfl
    have HB1 := hide (HBK.out.drewN nq)
    have HO1 := hide (own_drewN HOW.out nq)
    have HS1 := hide (HS.out.drewN nq)
    have HW := hide (show w.heap.size = (w.drewN nq).heap.size from rfl)
    have HM1' := hide (HM1.out.drewN nq)
    have HCF := hide ((Chg.refl (fun _ => False) w).drewN nq)
    clear k0 hc hr
    generalize w.drewN nq = w1 at k1 HB1 HO1 HS1 HW HM1' HCF ⊢
    go_upto_region 5 with fail
    have hbd := Below.refl w1.heap.size w1
    have k1a : ∀ o, (w1.alloc o).cell? ⟨g, 1, none⟩ = some (.slice A1 N c1) := fun o => (HB1.out.alloc o).at_ rfl
    go_region_law (first
      | (refine step_append_at _ (by rfl) (.tmp 29) (.tmp 32) _ (by rfl) 0 60 i0 (.slice none 0 0) 1 24 Try.underlying31 hi hz0 hz1 hz2 (by rfl) (by decide) (.slice A1 N c1) N els (by rfl) ((own_later HO1.out (by first | exact hbd | exact hbd.drew | exact hbd.drew.drew)).alloc _) ⟨w6.heap.size, 0, none⟩ 1 1 [.slice A6 n c6] (by rfl) (by rfl) (by first | exact news_one _ _ _ | (have := news_one w6.drew (.slice A6 n c6) 60; exact this)) (by intro u hu; simp at hu; subst hu; rfl) (by have := hL.out; unfold maxLen; omega) (by have := hL.out; omega) (by omega) ?_; intro v8 w8 hown8 hg8 hat8; obtain ⟨A8, c8, rfl⟩ := own_slice hown8; have kb8 := ((HB1.out.later hbd).alloc (.cells #[.slice A6 n c6] 60)).grown hg8 (Ne.symm (own_blk_ne HO1.out HB1.out (by decide))); have b28 : w8.cell? ⟨g, 1, none⟩ = some (.slice A1 N c1) := kb8.at_ rfl; have f8 := kb8.frozen 1)
      | (refine step_enter_ex (by rfl) 56 #[.slice A n c] (by go_simp) (clone_bytes _ (HS1.out.below (by first | exact hbd | exact hbd.drew | exact hbd.drew.drew)) (by have := hn.out; omega)) ?_; rintro v6 w6 ⟨own6, hb6⟩; obtain ⟨A6, c6, rfl⟩ := own_slice own6; have hbd := below_then (by first | exact hbd | exact hbd.drew | exact hbd.drew.drew) hb6; have k1b := (HB1.out.later hbd).at_ (i := 1) rfl; have k1c := ((HB1.out.later hbd).alloc (.cells #[.slice A6 n c6] 60)).at_ (i := 1) rfl)
      | fail)
    all_goals
      have HC6 := hide (HCF.out.then_below (show Below w1.heap.size w1 w6 from ⟨hbd.os, hbd.tape, hbd.output, hbd.size, hbd.block⟩))
      have HO6 : Hid (w6.ownsRow w.heap.size 5 1 (.slice A6 n c6) n (bytes8 x)) := own_mono own6 (Nat.le_of_eq HW.out)
      have G8 := hide hg8
      have O8 := hide hown8
      have T8 := hide hat8
      have KB8 := hide kb8
      clear own6 hb6 hbd hg8 hown8 hat8 kb8 f8 b28 k1 k1a k1b k1c
      obtain ⟨wa, HWA, hca, hza⟩ : ∃ wa : World, (wa.grownBy w8 (Value.slice A1 N c1).ownBlock ∧ ((Value.slice A8 (N + 1) c8).ownBlock = (Value.slice A1 N c1).ownBlock ∨ (Value.slice A8 (N + 1) c8).ownBlock = some wa.heap.size)) ∧ Chg (fun _ => False) w6 wa ∧ w6.heap.size < wa.heap.size := ⟨_, ⟨G8.out, T8.out⟩, (by first | exact (Chg.refl _ _).alloc _ | exact ((Chg.refl _ _).drewN 1).alloc _), by simp⟩
      clear G8 T8
      have HCA := hide hca
      have HZA := hide hza
      have HWA' := hide HWA
      clear hca hza HWA
      obtain ⟨w9, hw9⟩ : ∃ w9, w8.setCell ⟨g, 1, none⟩ (.slice A8 (N + 1) c8) = w9 := ⟨_, rfl⟩
      have HKB9 : Hid (Blk w9 g 68 #[.map (some m1), .slice A8 (N + 1) c8, .map (some m2)]) := by rw [← hw9]; exact KB8.out.set_ 1 (.slice A8 (N + 1) c8)
      have k0 : w9.cell? ⟨g, 0, none⟩ = some (.map (some m1)) := HKB9.out.at_ rfl
      have k1 : w9.cell? ⟨g, 1, none⟩ = some (.slice A8 (N + 1) c8) := HKB9.out.at_ rfl
      have k0d : w9.drew.cell? ⟨g, 0, none⟩ = some (.map (some m1)) := HKB9.out.at_ rfl
      have HC9 : Hid (Chg G w w9) := by
        obtain ⟨hlt, hin, hsm, h1, _⟩ := HG.out
        have q := ((HC6.out.trans HCA.out (fun _ hf => hf.elim)).mono (F' := G) (fun _ hf => hf.elim)).then_grown HWA'.out.1 (fun b e => .inl (h1 b (HROW.out b (by rw [HN.out]; exact e))))
        rw [← hw9]
        exact q.setCell (.inl hin) _
      have HM9 : Hid (Mp w9 m1 Value.string (numF L)) := by
        have l1 := HM1.out.lt
        have z6 := HC6.out.size
        have za := HZA.out
        have q1 := (HM1.out.at_ (w' := wa) ((HCA.out.at_ (by omega) id).trans (HC6.out.at_ l1 id)))
        have q2 := q1.grown HWA'.out.1 (by have := HRW.out.not_map HM1.out; rw [HN.out] at this; exact fun e => this e.symm)
        rw [← hw9]
        exact q2.setCell (fun e => HM1.out.not_blk HBK.out e.symm) _
      have hc9 : (convert 60 9 (.slice A n c)).run Try.prog w9.drew = .ok (.string s) w9.drew := by
        rw [← HSX.out]
        exact run_str_of_bytes _ _ _ _ Try.underlying60 (by kernel_rfl) (by kernel_rfl) ((HS.out.chg HC9.out hA.out).drew)
      obtain ⟨w10, hrun, hm10, hg10, _⟩ := HM9.out.drew.update keys_str under_numbers (tx x) (.int .i64 ((N : Int) + 1))
      rw [HSX.out] at hrun
      have HPOST : Hid (BkN G g (L ++ [x]) sg w w10) := by
        have e1 : els.length = N := by have := HOW.out.1; omega
        refine bk_grow HG.out HN.out hlen hn.out HM2.out HM1.out (by have := HROW.out; rw [HN.out] at this; exact this) (by have := HRW.out; rw [HN.out] at this; exact this) HEL.out e1 HC6.out HO6.out HCA.out HZA.out HWA'.out.1 O8.out HWA'.out.2 HBK.out KB8.out (by rw [hw9]; exact ⟨hg10.os, hg10.tape, hg10.output, hg10.size, hg10.block⟩) (hm10.congr (fun q => ?_))
        rw [← HN.out]
        exact numF_snoc hf.out q
      rw [hw9]
      clear hw9 HM9 hm10 hg10 HKB9 HC9 HWA' HCA HZA HC6 HO6 O8 KB8
      go_wp2_with fail
      go_still_tail 7, (by kernel_rfl)
      change wpList _ _ _ _ _ w9.drew
      go_wp2_with fail
      go_step3
      rename_i hk
      exact hk _ _ (H _ _ ⟨_, _, _, _, _, _, _, _, _, _, _, _, _, _, _, _, _, _, _, _, _, _, _, _, _, _, _, _, _, _, _, _, _, _, _, _, _, _, _, _, _, _, _, _, _, _, _, _, rfl, HPOST⟩)
end Go.Proofs.Ytebaojcfmkobjaa
/-
  Contracts of package book: Digest, whatever the bytes; small words.
-/
namespace Go.Proofs.Ytebaojcfmkobjaa
open Go.RowKit

theorem BkI.next {G : Nat → Prop} {w w' : World} {g : Nat} {L L' : List (List UInt8)} {sg sg' : Int × Int → Bool} (h : BkN G g L' sg' w w') : ∃ G', BkI G' w' g L' sg' ∧ (∀ b, G' b → G b ∨ w.heap.size ≤ b) ∧ Chg G w w' := h
theorem book_Digest {G : Nat → Prop} {g : Nat} {L : List (List UInt8)} {sg : Int × Int → Bool} {A : Option Addr} {n c : Nat} {x : List UInt8} (w : World) (h : BkI G w g L sg) (hs : Sl w 1 A n (bytes8 x)) (hn : Hid (n ≤ 1048576)) (hL : Hid (L.length ≤ 65535)) (hA : Hid (0 < n → ∀ b off, A = some ⟨b, off, none⟩ → ¬ G b))
    {d : Int} (hd : Hid (digN L x = d)) {L' : List (List UInt8)} (hl : Hid (addL L x = L')) :
    Calls Try.prog 30 #[.pointer (some ⟨g, 0, none⟩), .slice A n c] w fun e w' => e = .returned (.tuple #[.int .i64 d, .int .i64 0]) ∧ BkN G g L' sg w w' := by
  obtain rfl := hd.out
  obtain rfl := hl.out
  unfold digN addL
  cases hf : fnd L x with
  | some i =>
    refine (book_Digest_old w h hs (by have := hn.out; omega) hf).mono ?_
    rintro e w' ⟨rfl, q, rfl⟩
    exact ⟨rfl, G, h.drewN q, fun b hb => .inl hb, (Chg.refl G w).drewN q⟩
  | none =>
    refine (book_Digest_new w h hs hn hf hL hA).mono ?_
    rintro e w' ⟨rfl, hb⟩
    exact ⟨rfl, hb⟩
end Go.Proofs.Ytebaojcfmkobjaa
