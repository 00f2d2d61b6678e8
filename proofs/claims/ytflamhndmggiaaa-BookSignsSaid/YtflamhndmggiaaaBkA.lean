
/-
  Contracts of package book: New, has, Count, Signed, Sign, Find.
-/
import Derived.Test.YtflamhndmggiaaaBook
import Derived.Test.YtflamhndmggiaaaCon2
namespace Go.Proofs.Ytflamhndmggiaaa
open Go.RowKit

theorem isPair_sign : IsPair Try.prog 107 3 3 ((Try.prog.fieldsOf 107).getD 0 default) ((Try.prog.fieldsOf 107).getD 1 default) where
  k := by kernel_rfl
  e0 := by kernel_rfl
  e1 := by kernel_rfl
  o0 := by kernel_rfl
  o1 := by kernel_rfl
  u0 := by kernel_rfl
  u1 := by kernel_rfl
  n0 := by decide +kernel
  n1 := by decide +kernel
  h := by kernel_rfl
theorem keys_sign : KeyFam Try.prog 107 pairV := keys_pair isPair_sign
theorem keys_str : KeyFam Try.prog 9 Value.string := keys_string (by kernel_rfl)
theorem under_numbers : Try.prog.underlying 100 = some (.map 9 3) := by kernel_rfl
theorem under_signs : Try.prog.underlying 101 = some (.map 107 4) := by kernel_rfl
theorem zero_int (w : World) : (zeroValue 3).run Try.prog w = .ok (.int .i64 0) w := by kernel_rfl
theorem zero_bool (w : World) : (zeroValue 4).run Try.prog w = .ok (.bool false) w := by kernel_rfl

/-- A slice of rows' length and a book's cells, as the walk needs them. -/
theorem BkI.open_ {G : Nat → Prop} {w : World} {g : Nat} {L : List (List UInt8)} {sg : Int × Int → Bool} (h : BkI G w g L sg) :
    ∃ m1 m2 A c, w.cell? ⟨g, 0, none⟩ = some (.map (some m1)) ∧ w.cell? ⟨g, 1, none⟩ = some (.slice A L.length c) ∧ w.cell? ⟨g, 2, none⟩ = some (.map (some m2)) ∧ L.length ≤ 9223372036854775807 ∧ Mp w m1 Value.string (numF L) ∧ Mp w m2 pairV (sgF sg) := by
  obtain ⟨_, _, _, F, E, m1, m2, v, _, _, _, _, _, _, _, hb, hm1, hm2, hr⟩ := h
  obtain ⟨A, c, rfl, hl⟩ := hr.val
  exact ⟨m1, m2, A, c, hb.at_ rfl, hb.at_ rfl, hb.at_ rfl, hl, hm1, hm2⟩

set_option maxHeartbeats 400000 in
theorem book_New (w : World) : Calls Try.prog 15 #[] w fun e w' => ∃ g G, e = .returned (.pointer (some ⟨g, 0, none⟩)) ∧ BkI G w' g [] (fun _ => false) ∧ (∀ b, G b → w.heap.size ≤ b) ∧ Below w.heap.size w w' := by
  have hmm := @run_makeMap Try.prog
  go_enter Try.func15, Try.ntmps15
  go_wp2_with fail
  go_ret
  refine ⟨_, fun b => w.heap.size ≤ b ∧ b < w.heap.size + 3, rfl, ⟨fun b hb => by simp; omega, ⟨by omega, by omega⟩, by simp, fun b => w.heap.size ≤ b ∧ b < w.heap.size + 3, fun _ => False, w.heap.size, w.heap.size + 1, .slice none 0 0, fun _ => id, fun _ hf => hf.elim, fun _ _ => id, ⟨by omega, by omega⟩, ⟨by omega, by omega⟩, ⟨by omega, by omega⟩, by omega, ?_, ?_, ?_, RwF.nil_⟩, fun b hb => hb.1, ?_⟩
  · have := Blk.new2 (w.alloc (.map #[] 0)) (.map #[] 0) 103 #[.map (some w.heap.size), .slice none 0 0, .map (some (w.heap.size + 1))]
    simpa using this
  · exact (((Mp.made w Value.string).alloc _).alloc _).congr (fun k => rfl)
  · have := (Mp.made (w.alloc (.map #[] 0)) pairV).alloc (.cells #[.map (some w.heap.size), .slice none 0 0, .map (some (w.heap.size + 1))] 103)
    simp only [show (w.alloc (.map #[] 0)).heap.size = w.heap.size + 1 by simp] at this
    exact this.congr (fun k => rfl)
  · exact (((Below.refl _ _).alloc (Nat.le_refl _) _).alloc (by simp) _).alloc (by simp; omega) _

set_option maxHeartbeats 400000 in
theorem book_Count {G : Nat → Prop} {g : Nat} {L : List (List UInt8)} {sg : Int × Int → Bool} (w : World) (h : BkI G w g L sg) :
    Calls Try.prog 23 #[.pointer (some ⟨g, 0, none⟩)] w fun e w' => e = .returned (.int .i64 (L.length : Int)) ∧ w = w' := by
  obtain ⟨m1, m2, A, c, _, c1, _, hl, _⟩ := h.open_
  clear h
  go_enter Try.func23, Try.ntmps23
  go_wp2_with fail
  go_ret
  exact ⟨rfl, rfl⟩

set_option maxHeartbeats 400000 in
theorem book_has {G : Nat → Prop} {g : Nat} {L : List (List UInt8)} {sg : Int × Int → Bool} (d : Int) (w : World) (h : BkI G w g L sg) {r : Bool} (hr : Hid (decide (1 ≤ d ∧ d ≤ (L.length : Int)) = r)) :
    Calls Try.prog 70 #[.pointer (some ⟨g, 0, none⟩), .int .i64 d] w fun e w' => e = .returned (.bool r) ∧ w = w' := by
  obtain ⟨m1, m2, A, c, _, c1, _, hl, _⟩ := h.open_
  clear h
  generalize L.length = n at c1 hl hr ⊢
  by_cases h1 : 1 ≤ d
  · have hd1 : decide (1 ≤ d) = true := by simpa using h1
    have hd1' : decide (d < 1) = false := by simp; omega
    by_cases h2 : d ≤ (n : Int)
    · have HR : Hid (true = r) := by rw [Hid, ← hr.out]; simp [h1, h2]
      have hd2 : decide (d ≤ (n : Int)) = true := by simpa using h2
      clear hr
      go_enter Try.func70, Try.ntmps70
      go_wp2_with fail
      go_ret
      exact ⟨ret_bool HR.out, rfl⟩
    · have HR : Hid (false = r) := by rw [Hid, ← hr.out]; simp; omega
      have hd2 : decide (d ≤ (n : Int)) = false := by simp; omega
      clear hr
      go_enter Try.func70, Try.ntmps70
      go_wp2_with fail
      go_ret
      exact ⟨ret_bool HR.out, rfl⟩
  · have hd1 : decide (1 ≤ d) = false := by simpa using h1
    have HR : Hid (false = r) := by rw [Hid, ← hr.out]; simp; omega
    clear hr
    go_enter Try.func70, Try.ntmps70
    go_wp2_with fail
    go_ret
    exact ⟨ret_bool HR.out, rfl⟩
set_option maxHeartbeats 400000 in
theorem book_Signed {G : Nat → Prop} {g : Nat} {L : List (List UInt8)} {sg : Int × Int → Bool} (who d : Int) (w : World) (h : BkI G w g L sg) :
    Calls Try.prog 19 #[.pointer (some ⟨g, 0, none⟩), .int .i64 who, .int .i64 d] w fun e w' => e = .returned (.bool (sg (who, d))) ∧ w = w' := by
  obtain ⟨m1, m2, A, c, _, _, c2, hl, _, hm⟩ := h.open_
  clear h
  have hr := hm.look keys_sign under_signs (zero_bool w) (who, d) false
  have e : (sgF sg (who, d)).getD (.bool false) = .bool (sg (who, d)) := by
    unfold sgF
    cases sg (who, d) <;> rfl
  rw [e] at hr
  simp only [pairV, Bool.false_eq_true, if_false] at hr
  clear e hm
  go_enter Try.func19, Try.ntmps19
  go_wp2_with fail
  go_ret
  exact ⟨rfl, rfl⟩

set_option maxHeartbeats 1000000 in
theorem book_Sign {G : Nat → Prop} {g : Nat} {L : List (List UInt8)} {sg : Int × Int → Bool} (who d : Int) (w : World) (h : BkI G w g L sg) {r : Int} (hr : Hid (sgR L.length who d = r)) :
    Calls Try.prog 20 #[.pointer (some ⟨g, 0, none⟩), .int .i64 who, .int .i64 d] w fun e w' => e = .returned (.int .i64 r) ∧ BkI G w' g L (sgUp r sg (who, d)) ∧ Chg G w w' := by
  by_cases h0 : 1 ≤ who ∧ who ≤ 16
  · have hw1 : decide (who < 1) = false := by simp; omega
    have hw2 : decide (16 < who) = false := by simp; omega
    obtain ⟨p, HP⟩ : ∃ p, Hid (decide (1 ≤ d ∧ d ≤ (L.length : Int)) = p) := ⟨_, rfl⟩
    have CH := hide (book_has d w h HP)
    cases p with
    | false =>
      have HR : Hid (3 = r) := by have := HP.out; rw [decide_eq_false_iff_not] at this; rw [Hid, ← hr.out, sgR, if_pos h0, if_neg this]
      obtain rfl := HR.out
      have HB : Hid (BkI G w g L (sgUp 3 sg (who, d)) ∧ Chg G w w) := ⟨h, Chg.refl _ _⟩
      clear h h0 hr HR
      go_enter Try.func20, Try.ntmps20
      go_wp2_with fail
      refine CH.out.mono ?_
      rintro e w' ⟨rfl, rfl⟩
      go_wp2_with fail
      go_ret
      exact ⟨rfl, HB.out⟩
    | true =>
      have HR : Hid (0 = r) := by have := HP.out; rw [decide_eq_true_eq] at this; rw [Hid, ← hr.out, sgR, if_pos h0, if_pos this]
      obtain ⟨hlt, hin, hsm, F, E, m1, m2, v, h1, h2, h3, h4, h5, h6, h7, h8, h9, h10, h11⟩ := h
      have c2 : w.cell? ⟨g, 2, none⟩ = some (.map (some m2)) := h8.at_ rfl
      obtain ⟨w1, hrun, hm, hg, hz⟩ := h10.update keys_sign under_signs (who, d) (.bool true)
      obtain rfl := HR.out
      have HB : Hid (BkI G w1 g L (sgUp 0 sg (who, d)) ∧ Chg G w w1) := by
        have hc : Chg (fun b => b = m2) w w1 := Chg.of_grown hg (fun g e => by injection e with e; exact .inl e.symm)
        have n8 : g ≠ m2 := h10.not_blk h8
        refine ⟨⟨fun b hb => by rw [hz]; exact hlt b hb, hin, hsm, F, E, m1, m2, v, h1, h2, h3, h4, h5, h6, h7, h8.at_block (hc.at_ h8.lt n8), h9.at_ (hc.at_ h9.lt h7), hm.congr (sgF_add sg (who, d)), h11.keep hc.size (fun b hb hF => hc.at_ hb ?_) (fun b hb hE => hc.at_ hb (fun e => by subst e; exact h3 _ h6 hE)) (fun _ => id) (fun _ => id)⟩, hc.mono (fun b hb => by subst hb; exact .inl (h1 _ h6))⟩
        rintro rfl
        exact h11.not_map h10 hF
      simp only [pairV] at hrun
      clear hr HR h0 hlt hin hsm h1 h2 h3 h4 h5 h6 h7 h8 h9 h10 h11 hm hg hz
      go_enter Try.func20, Try.ntmps20
      go_wp2_with fail
      refine CH.out.mono ?_
      rintro e w' ⟨rfl, rfl⟩
      go_wp2_with fail
      go_ret
      exact ⟨rfl, HB.out⟩
  · have HR : Hid (1 = r) := by rw [Hid, ← hr.out, sgR, if_neg h0]
    obtain rfl := HR.out
    have HB : Hid (BkI G w g L (sgUp 1 sg (who, d)) ∧ Chg G w w) := ⟨h, Chg.refl _ _⟩
    have HN := hide h0
    clear h h0 hr HR
    go_enter Try.func20, Try.ntmps20
    go_wp2_with fail
    all_goals
      first
        | (go_ret; exact ⟨rfl, HB.out⟩)
        | (exfalso; exact HN.out ⟨by omega, by omega⟩)
end Go.Proofs.Ytflamhndmggiaaa
