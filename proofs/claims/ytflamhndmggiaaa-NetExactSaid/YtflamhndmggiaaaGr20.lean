/-
  Texts joined: words and contracts that later texts use; lemmas alone, no conditions of a statement.
-/
import Derived.Test.YtflamhndmggiaaaGr19
import Derived.Test.YtflamhndmggiaaaGr16
import Derived.Test.YtflamhndmggiaaaGr05
import Derived.Test.YtflamhndmggiaaaGr10
set_option linter.unusedVariables false
set_option linter.unusedSimpArgs false
/-
  The net and the reference net side by side; what a call changes of them.
-/
namespace Go.Proofs.Ytflamhndmggiaaa
open Go.RowKit

set_option maxRecDepth 100000 in
set_option maxHeartbeats 1000000 in
theorem law0_Bytes_chg {v : Value} {n base : Nat} {xs : List UInt8} (w : World) (h : w.ownsRow base 5 1 v n (bytes8 xs)) (hbase : base ≤ w.heap.size) (hn : n ≤ 1099511627776) :
    Calls Try.prog 36 #[v] w fun e w' => e = .returned (.tuple #[]) ∧ Chg (fun b => v.ownBlock = some b) w w' := by
  obtain ⟨i0, hi, hz0, hz1, hz2⟩ := info_parts Try.infoByte
  obtain ⟨A, c, rfl⟩ := own_slice h
  go_enter Try.func36, Try.ntmps36
  go_wp2_with fail
  go_loopw [2] (fun i wr => ∃ (k : Nat) (ys : List UInt8), k ≤ n ∧ i = .int .i64 k ∧ wr.ownsRow base 5 1 (.slice A n c) n (bytes8 ys) ∧ Chg (fun b => (Value.slice A n c).ownBlock = some b) w wr) (fun i _ => n - (intOf i).toNat)
  case atStart => exact ⟨0, xs, Nat.zero_le _, rfl, h, Chg.refl _ _⟩
  case round =>
    obtain ⟨k, ys, hk, rfl, hown, hb⟩ := hrel
    have hsz := hb.size
    by_cases hlt : k < n
    · have hl := hown.1
      rw [bytes8_len] at hl
      obtain ⟨g, cap, hv, hgb, hgl⟩ := hown.form (by omega)
      injection hv with hA _ hc
      subst hA
      subst hc
      have hc0 : wr.cell? ⟨g, k, none⟩ = some (.int .u8 ((ys[k]'(by omega)).toNat : Int)) := by rw [hown.cellAt k (by omega)]; simp only [bytes8, List.getElem?_map, List.getElem?_eq_getElem (show k < ys.length by omega)]; rfl
      have hf0 := hown.frozenAt k
      have hst := hide (fun u => hown.stored k u)
      have hb' : ∀ u, Hid (Chg (fun b => (Value.slice (some ⟨g, 0, none⟩) n c).ownBlock = some b) w (wr.setCell ⟨g, k, none⟩ u)) := fun u => hb.setCell (p := ⟨g, k, none⟩) (.inl rfl) u
      have HB := hide hb'
      clear hown hb' hb
      go_wp2_with fail
      go_roundw
      case rel =>
        refine ⟨k + 1, ys.set k ((ys[k]'(by omega)) ^^^ 85), by omega, by go_num, ?_, (HB.out _).out⟩
        have h9 := hst.out (.int .u8 (((ys[k]'(by omega)) ^^^ 85 : UInt8).toNat : Int))
        rw [show bytes8 (ys.set k ((ys[k]'(by omega)) ^^^ 85)) = (bytes8 ys).set k (.int .u8 (((ys[k]'(by omega)) ^^^ 85 : UInt8).toNat : Int)) by simp [bytes8, List.map_set]]
        rw [xor_u8]; exact h9.1
      case measure => simp [intOf]; omega
    · obtain rfl : k = n := by omega
      go_wp2_with (at_builtin; refine wpList_append_own _ rfl _ _ 28 rfl base 5 i0 (.int .u8 0) 1 1 Try.underlying28 hi hz0 hz1 hz2 rfl (by decide) _ _ _ rfl (hown.alloc _) ⟨wr.heap.size, 0, none⟩ 1 1 [.int .u8 5] rfl rfl (news_one _ _ _) (one_int _ _) (by unfold maxLen; omega) (by omega) (by simp; omega) ?_)
      intro v3 w3 _ hg3 _
      have hb4 := (hb.alloc (.cells #[.int .u8 5] 5)).then_grown hg3 (fun g e => .inl e)
      clear hg3 hown hb
      go_wp2_with fail
      go_end0
      exact ⟨rfl, hb4⟩

def Good (S : Int × Int → List (List UInt8)) : Prop := ∀ a b, S (a, b) ≠ [] → (nodeB a && nodeB b) = true
/-- The net at g reads as S, the reference net at r as R; they are apart, all their blocks are new; the blocks of X are neither's. -/
def NX (w0 w : World) (g r : Nat) (S R : Int × Int → List (List UInt8)) (X : Nat → Prop) (k : Nat) : Prop := ∃ F m rows st F2 Vl ws, NtJ F w g m rows st ∧ (∀ q, (st q).map (·.2) = S q) ∧ RfJ F2 w r Vl ws ∧ LookW ws R ∧ ws.length ≤ k ∧ (∀ b, F b → w0.heap.size ≤ b ∧ ¬ F2 b) ∧ (∀ b, F2 b → w0.heap.size ≤ b) ∧ Below w0.heap.size w0 w ∧ (∀ b, X b → ¬ F b ∧ ¬ F2 b ∧ b < w.heap.size ∧ w0.heap.size ≤ b) ∧ Good S
def Out (w0 : World) (X : Nat → Prop) (b : Nat) : Prop := w0.heap.size ≤ b ∧ ¬ X b
section
variable {w0 w w' : World} {g r k k' : Nat} {S R S' R' : Int × Int → List (List UInt8)} {X X' : Nat → Prop}
theorem NX.old (h : NX w0 w g r S R X k) : Below w0.heap.size w0 w := by
  obtain ⟨F, m, rows, st, F2, Vl, ws, h1, h2, h3, h4, h5, h6, h7, h8, h9, h10⟩ := h
  exact h8
theorem NX.xs (h : NX w0 w g r S R X k) {b : Nat} (hb : X b) : b < w.heap.size ∧ w0.heap.size ≤ b := by
  obtain ⟨F, m, rows, st, F2, Vl, ws, h1, h2, h3, h4, h5, h6, h7, h8, h9, h10⟩ := h
  exact ⟨(h9 b hb).2.2.1, (h9 b hb).2.2.2⟩
theorem NX.below (h : NX w0 w g r S R X k) (hb : Below w.heap.size w w') : NX w0 w' g r S R X k := by
  obtain ⟨F, m, rows, st, F2, Vl, ws, h1, h2, h3, h4, h5, h6, h7, h8, h9, h10⟩ := h
  exact ⟨F, m, rows, st, F2, Vl, ws, h1.below hb, h2, h3.below hb, h4, h5, h6, h7, below_then h8 hb, fun b hx => ⟨(h9 b hx).1, (h9 b hx).2.1, Nat.lt_of_lt_of_le (h9 b hx).2.2.1 hb.size, (h9 b hx).2.2.2⟩, h10⟩
theorem NX.add (h : NX w0 w g r S R X k) (hb : Below w.heap.size w w') (hX : ∀ b, X' b → X b ∨ (w.heap.size ≤ b ∧ b < w'.heap.size)) : NX w0 w' g r S R X' k := by
  obtain ⟨F, m, rows, st, F2, Vl, ws, h1, h2, h3, h4, h5, h6, h7, h8, h9, h10⟩ := h
  refine ⟨F, m, rows, st, F2, Vl, ws, h1.below hb, h2, h3.below hb, h4, h5, h6, h7, below_then h8 hb, fun b hx => ?_, h10⟩
  rcases hX b hx with hx | hx
  · exact ⟨(h9 b hx).1, (h9 b hx).2.1, Nat.lt_of_lt_of_le (h9 b hx).2.2.1 hb.size, (h9 b hx).2.2.2⟩
  · exact ⟨fun h => by have := h1.lt b h; omega, fun h => by have := h3.lt b h; omega, hx.2, Nat.le_trans h8.size hx.1⟩
theorem NX.less (h : NX w0 w g r S R X k) (hX : ∀ b, X' b → X b) (hk : k ≤ k') : NX w0 w g r S R X' k' := by
  obtain ⟨F, m, rows, st, F2, Vl, ws, h1, h2, h3, h4, h5, h6, h7, h8, h9, h10⟩ := h
  exact ⟨F, m, rows, st, F2, Vl, ws, h1, h2, h3, h4, Nat.le_trans h5 hk, h6, h7, h8, fun b hx => h9 b (hX b hx), h10⟩
/-- A change of what is neither's. -/
theorem NX.loose {H : Nat → Prop} (h : NX w0 w g r S R X k) (hc : Chg H w w') (hH : ∀ b, H b → X b) : NX w0 w' g r S R X k := by
  obtain ⟨F, m, rows, st, F2, Vl, ws, h1, h2, h3, h4, h5, h6, h7, h8, h9, h10⟩ := h
  exact ⟨F, m, rows, st, F2, Vl, ws, h1.keep hc (fun b hb hh => (h9 b (hH b hh)).1 hb), h2, h3.keep hc (fun b hb hh => (h9 b (hH b hh)).2.1 hb), h4, h5, h6, h7, h8.trans (hc.to_below (fun b hb => (h9 b (hH b hb)).2.2.2) h8.size), fun b hx => ⟨(h9 b hx).1, (h9 b hx).2.1, Nat.lt_of_lt_of_le (h9 b hx).2.2.1 hc.size, (h9 b hx).2.2.2⟩, h10⟩
theorem nx_prog {F F' F2 H : Nat → Prop} {m m' : Nat} {rows rows' : Int × Int → Option Value} {st st' : Int × Int → List (Value × List UInt8)} {Vl : Value} {ws : List RW} (h1 : NtJ F w g m rows st) (h3 : RfJ F2 w r Vl ws) (h4 : LookW ws R) (h5 : ws.length ≤ k) (h6 : ∀ b, F b → w0.heap.size ≤ b ∧ ¬ F2 b) (h7 : ∀ b, F2 b → w0.heap.size ≤ b) (h8 : Below w0.heap.size w0 w) (h9 : ∀ b, X b → ¬ F b ∧ ¬ F2 b ∧ b < w.heap.size ∧ w0.heap.size ≤ b)
    (k1 : NtJ F' w' g m' rows' st') (k2 : ∀ q, (st' q).map (·.2) = S' q) (hc : Chg H w w') (hH : ∀ b, H b → F b) (hF : ∀ b, F' b → F b ∨ w.heap.size ≤ b) (hg : Good S') : NX w0 w' g r S' R X k ∧ Chg (Out w0 X) w w' := by
  refine ⟨⟨F', m', rows', st', F2, Vl, ws, k1, k2, h3.keep hc (fun b hb hh => (h6 b (hH b hh)).2 hb), h4, h5, fun b hb => ?_, h7, h8.trans (hc.to_below (fun b hb => (h6 b (hH b hb)).1) h8.size), fun b hx => ?_, hg⟩, hc.mono (fun b hb => .inl ⟨(h6 b (hH b hb)).1, fun hx => (h9 b hx).1 (hH b hb)⟩)⟩
  · rcases hF b hb with hb | hb
    · exact h6 b hb
    · exact ⟨Nat.le_trans h8.size hb, fun h => by have := h3.lt b h; omega⟩
  · refine ⟨fun hb => ?_, (h9 b hx).2.1, Nat.lt_of_lt_of_le (h9 b hx).2.2.1 hc.size, (h9 b hx).2.2.2⟩
    rcases hF b hb with hb | hb
    · exact (h9 b hx).1 hb
    · have := (h9 b hx).2.2.1; omega
theorem nx_ref {F F2 : Nat → Prop} {m : Nat} {rows : Int × Int → Option Value} {st : Int × Int → List (Value × List UInt8)} {Vl : Value} {ws : List RW} (h1 : NtJ F w g m rows st) (h2 : ∀ q, (st q).map (·.2) = S q) (h3 : RfJ F2 w r Vl ws) (h6 : ∀ b, F b → w0.heap.size ≤ b ∧ ¬ F2 b) (h7 : ∀ b, F2 b → w0.heap.size ≤ b) (h8 : Below w0.heap.size w0 w) (h9 : ∀ b, X b → ¬ F b ∧ ¬ F2 b ∧ b < w.heap.size ∧ w0.heap.size ≤ b) (h10 : Good S)
    (hr : RfN F2 w w' r k R') : NX w0 w' g r S R' X k ∧ Chg (Out w0 X) w w' := by
  obtain ⟨F3, Vl', ws', k1, k2, k3, k4, k5⟩ := hr
  refine ⟨⟨F, m, rows, st, F3, Vl', ws', h1.keep k5 (fun b hb hh => (h6 b hb).2 hh), h2, k1, k2, k3, fun b hb => ⟨(h6 b hb).1, fun hh => ?_⟩, fun b hb => ?_, h8.trans (k5.to_below h7 h8.size), fun b hx => ⟨(h9 b hx).1, fun hh => ?_, Nat.lt_of_lt_of_le (h9 b hx).2.2.1 k5.size, (h9 b hx).2.2.2⟩, h10⟩, k5.mono (fun b hb => .inl ⟨h7 b hb, fun hx => (h9 b hx).2.1 hb⟩)⟩
  · rcases k4 b hh with hh | hh
    · exact (h6 b hb).2 hh
    · have := h1.lt b hb; omega
  · rcases k4 b hb with hh | hh
    · exact h7 b hh
    · exact Nat.le_trans h8.size hh
  · rcases k4 b hh with hh | hh
    · exact (h9 b hx).2.1 hh
    · have := (h9 b hx).2.2.1; omega
theorem good_put {a b : Int} {x : List UInt8} (h : Good S) : Good (putS S a b x) := by
  unfold putS
  split
  · rename_i hp
    intro a' b' hne
    by_cases e : (a', b') = (a, b)
    · injection e with e1 e2
      subst e1; subst e2
      exact hp.1
    · rw [updF_ne e] at hne
      exact h a' b' hne
  · exact h
theorem good_take {a b kk : Int} (h : Good S) : Good (takeS S a b kk) := by
  unfold takeS
  split
  · intro a' b' hne
    by_cases e : (a', b') = (a, b)
    · injection e with e1 e2
      subst e1; subst e2
      rw [updF_self] at hne
      exact h a' b' (fun e => hne (by rw [e]; rfl))
    · rw [updF_ne e] at hne
      exact h a' b' hne
  · exact h
theorem good_dbl {a b kk : Int} (h : Good S) : Good (dblS S a b kk) := by
  unfold dblS
  split
  · exact good_put h
  · exact h
theorem good_clr {b : Int} (h : Good S) : Good (clrA b S) := fun a' b' hne => h a' b' (fun e => hne (by unfold clrA; split; rfl; exact e))
theorem in_range {a b kk : Int} (h : 0 ≤ kk ∧ kk < ((S (a, b)).length : Int)) : ∃ i : Nat, kk = (i : Int) ∧ ∃ x, (S (a, b))[i]? = some x := by
  obtain ⟨i, rfl⟩ : ∃ q : Nat, kk = q := ⟨kk.toNat, by omega⟩
  exact ⟨i, rfl, _, List.getElem?_eq_getElem (by omega)⟩
theorem out_range {a b kk : Int} (h : ¬ (0 ≤ kk ∧ kk < ((S (a, b)).length : Int))) : kk < 0 ∨ ((S (a, b)).length : Int) ≤ kk := by omega
theorem NtJ.len {F : Nat → Prop} {m : Nat} {rows : Int × Int → Option Value} {st : Int × Int → List (Value × List UInt8)} (h : NtJ F w g m rows st) (h2 : ∀ q, (st q).map (·.2) = S q) (q : Int × Int) : (S q).length ≤ 1024 := by rw [← len_S h2]; exact h.cnt q
theorem nx_Put {A : Option Addr} {n c : Nat} {x : List UInt8} (a b : Int) (h : NX w0 w g r S R X k) (hs : Sl w 1 A n (bytes8 x)) (hx : n ≤ 1048576) :
    Calls Try.prog 43 #[.pointer (some ⟨g, 0, none⟩), .int .i64 a, .int .i64 b, .slice A n c] w fun e w' => e = .returned (.int .i64 (putC S a b)) ∧ NX w0 w' g r (putS S a b x) R X k ∧ Chg (Out w0 X) w w' := by
  have h0 := h
  obtain ⟨F, m, rows, st, F2, Vl, ws, h1, h2, h3, h4, h5, h6, h7, h8, h9, h10⟩ := h
  cases hN : (nodeB a && nodeB b)
  · refine (net_Put_form (x := x) a b h1 hN).mono ?_
    rintro e w' ⟨rfl, hb⟩
    unfold putC putS
    rw [if_neg (by rw [hN]; decide), if_neg (by rw [hN]; exact fun h => absurd h.1 (by decide))]
    exact ⟨rfl, h0.below hb, Chg.of_below hb⟩
  · by_cases hL : (S (a, b)).length < 1024
    · refine (net_Put_ok a b h1 hN (by rw [len_S h2]; exact hL) hs hx).mono ?_
      rintro e w' ⟨rfl, V', u, hJ, hc⟩
      have hp := good_put (a := a) (b := b) (x := x) h10
      unfold putC
      unfold putS at hp ⊢
      rw [if_pos ⟨hN, hL⟩] at hp
      rw [if_pos hN, if_pos hL, if_pos ⟨hN, hL⟩]
      exact ⟨rfl, nx_prog h1 h3 h4 h5 h6 h7 h8 h9 hJ (fun q => by rw [updS h2, List.map_append, h2]; rfl) hc (fun q e => e.elim (fun e => by subst e; exact h1.fm) (fun e => h1.frow _ q e)) (fun q hq => hq.imp id (fun h => h.1)) hp⟩
    · have hle := h1.len h2 (a, b)
      refine (net_Put_full (x := x) a b h1 hN (by rw [len_S h2]; omega)).mono ?_
      rintro e w' ⟨rfl, hb⟩
      unfold putC putS
      rw [if_pos hN, if_neg hL, if_neg (fun h => hL h.2)]
      exact ⟨rfl, h0.below hb, Chg.of_below hb⟩
theorem nx_Take (a b kk : Int) (h : NX w0 w g r S R X k) :
    Calls Try.prog 46 #[.pointer (some ⟨g, 0, none⟩), .int .i64 a, .int .i64 b, .int .i64 kk] w fun e w' => ∃ V, e = .returned (.tuple #[V, .int .i64 (takeC S a b kk)]) ∧ (takeX S a b kk).length ≤ 1048576 ∧ w'.ownsRow 0 5 1 V (takeX S a b kk).length (bytes8 (takeX S a b kk)) ∧ NX w0 w' g r (takeS S a b kk) R (fun q => X q ∨ V.ownBlock = some q) k ∧ Chg (Out w0 X) w w' := by
  have h0 := h
  obtain ⟨F, m, rows, st, F2, Vl, ws, h1, h2, h3, h4, h5, h6, h7, h8, h9, h10⟩ := h
  by_cases hk : 0 ≤ kk ∧ kk < ((S (a, b)).length : Int)
  · obtain ⟨i, rfl, x, hx⟩ := in_range hk
    obtain ⟨p, hp, rfl⟩ := at_S h2 hx
    refine (net_Take_ok a b h1 hp).mono ?_
    rintro e w' ⟨rfl, V', hJ, ho, hc⟩
    have hg := good_take (a := a) (b := b) (kk := (i : Int)) h10
    unfold takeC takeX
    unfold takeS at hg ⊢
    rw [if_pos hk, Int.toNat_natCast] at hg
    rw [if_pos hk, if_pos hk, if_pos hk, Int.toNat_natCast, hx]
    have hX : ∀ q, p.1.ownBlock = some q → F q := fun q hq => h1.fel _ p q (mem_of_at hp) hq
    have hS : ∀ q, ((updF st (a, b) ((st (a, b)).eraseIdx i)) q).map (·.2) = updF S (a, b) ((S (a, b)).eraseIdx i) q := fun q => by rw [updS h2, ChangeMaps.map_eraseIdx, h2]
    have hH : ∀ q, RowG m ((rows (a, b)).getD nilV) q → F q := fun q e => e.elim (fun e => by subst e; exact h1.fm) (fun e => h1.frow _ q e)
    obtain ⟨k1, k2⟩ := nx_prog h1 h3 h4 h5 h6 h7 h8 h9 hJ hS hc hH (fun q hq => .inl hq.1) hg
    refine ⟨_, rfl, h1.sm _ p (mem_of_at hp), ho, ?_, k2⟩
    obtain ⟨k3, _⟩ := nx_prog (X := fun _ => False) h1 h3 h4 h5 h6 h7 h8 (fun b hb => hb.elim) hJ hS hc hH (fun q hq => .inl hq.1) hg
    refine ⟨_, _, _, _, F2, Vl, ws, hJ, hS, h3.keep hc (fun b hb hh => (h6 b (hH b hh)).2 hb), h4, h5, fun b hb => h6 b hb.1, h7, k3.old, fun q hq => ?_, hg⟩
    rcases hq with hq | hq
    · exact ⟨fun h => (h9 q hq).1 h.1, (h9 q hq).2.1, Nat.lt_of_lt_of_le (h9 q hq).2.2.1 hc.size, (h9 q hq).2.2.2⟩
    · have := h6 q (hX q hq)
      exact ⟨fun h => h.2 hq, this.2, own_in ho hq, this.1⟩
  · refine (net_Take_no a b h1 kk (by rw [len_S h2]; exact out_range hk)).mono ?_
    rintro e w' ⟨rfl, hb⟩
    unfold takeC takeX takeS
    rw [if_neg hk, if_neg hk, if_neg hk]
    exact ⟨_, rfl, by simp, World.ownsRow_nil _ _ _ _, h0.add hb (fun b hb => .inl (hb.elim id (fun h => by cases h))), Chg.of_below hb⟩
theorem nx_Drop (a b kk : Int) (h : NX w0 w g r S R X k) :
    Calls Try.prog 53 #[.pointer (some ⟨g, 0, none⟩), .int .i64 a, .int .i64 b, .int .i64 kk] w fun e w' => e = .returned (.int .i64 (takeC S a b kk)) ∧ NX w0 w' g r (takeS S a b kk) R X k ∧ Chg (Out w0 X) w w' := by
  have h0 := h
  obtain ⟨F, m, rows, st, F2, Vl, ws, h1, h2, h3, h4, h5, h6, h7, h8, h9, h10⟩ := h
  by_cases hk : 0 ≤ kk ∧ kk < ((S (a, b)).length : Int)
  · obtain ⟨i, rfl, x, hx⟩ := in_range hk
    obtain ⟨p, hp, rfl⟩ := at_S h2 hx
    refine (net_Drop_ok a b h1 hp).mono ?_
    rintro e w' ⟨rfl, V', hJ, ho, hc⟩
    have hg := good_take (a := a) (b := b) (kk := (i : Int)) h10
    unfold takeC
    unfold takeS at hg ⊢
    rw [if_pos hk, Int.toNat_natCast] at hg
    rw [if_pos hk, if_pos hk, Int.toNat_natCast]
    exact ⟨rfl, nx_prog h1 h3 h4 h5 h6 h7 h8 h9 hJ (fun q => by rw [updS h2, ChangeMaps.map_eraseIdx, h2]) hc (fun q e => e.elim (fun e => by subst e; exact h1.fm) (fun e => h1.frow _ q e)) (fun q hq => .inl hq.1) hg⟩
  · refine (net_Drop_no a b h1 kk (by rw [len_S h2]; exact out_range hk)).mono ?_
    rintro e w' ⟨rfl, hb⟩
    unfold takeC takeS
    rw [if_neg hk, if_neg hk]
    exact ⟨rfl, h0.below hb, Chg.of_below hb⟩
theorem nx_Double (a b kk : Int) (h : NX w0 w g r S R X k) :
    Calls Try.prog 44 #[.pointer (some ⟨g, 0, none⟩), .int .i64 a, .int .i64 b, .int .i64 kk] w fun e w' => e = .returned (.int .i64 (dblC S a b kk)) ∧ NX w0 w' g r (dblS S a b kk) R X k ∧ Chg (Out w0 X) w w' := by
  have h0 := h
  obtain ⟨F, m, rows, st, F2, Vl, ws, h1, h2, h3, h4, h5, h6, h7, h8, h9, h10⟩ := h
  by_cases hk : 0 ≤ kk ∧ kk < ((S (a, b)).length : Int)
  · obtain ⟨i, rfl, x, hx⟩ := in_range hk
    obtain ⟨p, hp, rfl⟩ := at_S h2 hx
    have hN := h10 a b (fun e => by rw [e] at hx; simp at hx)
    have hX : takeX S a b (i : Int) = p.2 := by unfold takeX; rw [if_pos hk, Int.toNat_natCast, hx]; rfl
    have hp := good_dbl (a := a) (b := b) (kk := (i : Int)) h10
    unfold dblC
    unfold dblS at hp ⊢
    rw [if_pos hk, hX] at hp
    rw [if_pos hk, if_pos hk, hX]
    by_cases hL : (S (a, b)).length < 1024
    · refine (net_Double_ok a b h1 (by assumption) hN (by rw [len_S h2]; exact hL)).mono ?_
      rintro e w' ⟨rfl, F', V', u, hJ, hF, hc⟩
      unfold putC
      unfold putS at hp ⊢
      rw [if_pos ⟨hN, hL⟩] at hp
      rw [if_pos hN, if_pos hL, if_pos ⟨hN, hL⟩]
      exact ⟨rfl, nx_prog h1 h3 h4 h5 h6 h7 h8 h9 hJ (fun q => by rw [updS h2, List.map_append, h2]; rfl) hc (fun q e => e.elim (fun e => by subst e; exact h1.fm) (fun e => h1.frow _ q e)) hF hp⟩
    · have hle := h1.len h2 (a, b)
      refine (net_Double_full a b h1 (by assumption) hN (by rw [len_S h2]; omega)).mono ?_
      rintro e w' ⟨rfl, hb⟩
      unfold putC putS
      rw [if_pos hN, if_neg hL, if_neg (fun h => hL h.2)]
      exact ⟨rfl, h0.below hb, Chg.of_below hb⟩
  · refine (net_Double_no a b h1 kk (by rw [len_S h2]; exact out_range hk)).mono ?_
    rintro e w' ⟨rfl, hb⟩
    unfold dblC dblS
    rw [if_neg hk, if_neg hk]
    exact ⟨rfl, h0.below hb, Chg.of_below hb⟩
theorem nx_Clear (b : Int) (h : NX w0 w g r S R X k) :
    Calls Try.prog 50 #[.pointer (some ⟨g, 0, none⟩), .int .i64 b] w fun e w' => e = .returned (.tuple #[]) ∧ NX w0 w' g r (clrA b S) R X k ∧ Chg (Out w0 X) w w' := by
  obtain ⟨F, m, rows, st, F2, Vl, ws, h1, h2, h3, h4, h5, h6, h7, h8, h9, h10⟩ := h
  refine (net_Clear b h1).mono ?_
  rintro e w' ⟨rfl, rows', st', hJ, hst, hc⟩
  refine ⟨rfl, nx_prog h1 h3 h4 h5 h6 h7 h8 h9 hJ (fun q => ?_) hc (fun q hq => by subst hq; exact h1.fm) (fun q => .inl) (good_clr h10)⟩
  rw [hst q]
  unfold clr clrA
  by_cases hq : q.2 = b
  · rw [if_pos hq]
    split
    · rfl
    · rename_i hn
      rw [h2]
      by_cases hne : S q = []
      · exact hne
      · have hN := h10 q.1 q.2 hne
        rw [Bool.and_eq_true] at hN
        have h1' := hN.1
        unfold nodeB at h1'
        simp only [decide_eq_true_eq] at h1'
        exact absurd (by simpa [hq] using (⟨h1'.1, by omega⟩ : 1 ≤ q.1 ∧ q.1 < 17)) hn
  · rw [if_neg hq]
    rw [if_neg (fun h => hq (by simpa using h.1))]
    exact h2 q
theorem nx_Count (a b : Int) (h : NX w0 w g r S R X k) : Calls Try.prog 45 #[.pointer (some ⟨g, 0, none⟩), .int .i64 a, .int .i64 b] w fun e w' => e = .returned (.int .i64 ((S (a, b)).length : Int)) ∧ w = w' := by
  obtain ⟨F, m, rows, st, F2, Vl, ws, h1, h2, h3, h4, h5, h6, h7, h8, h9, h10⟩ := h
  have := net_Count a b h1
  rw [len_S h2] at this
  exact this
theorem rx_Count (a b : Int) (h : NX w0 w g r S R X k) : Calls Try.prog 56 #[.pointer (some ⟨r, 0, none⟩), .int .i64 a, .int .i64 b] w fun e w' => e = .returned (.int .i64 ((R (a, b)).length : Int)) ∧ w = w' := by
  obtain ⟨F, m, rows, st, F2, Vl, ws, h1, h2, h3, h4, h5, h6, h7, h8, h9, h10⟩ := h
  exact rf_Count a b h3 h4
theorem rx_Put {A : Option Addr} {n c : Nat} {x : List UInt8} (a b : Int) (h : NX w0 w g r S R X k) (hk : k + 1 ≤ 1000) (hs : Sl w0 1 A n (bytes8 x)) (hx : n ≤ 1048576) :
    Calls Try.prog 55 #[.pointer (some ⟨r, 0, none⟩), .int .i64 a, .int .i64 b, .slice A n c] w fun e w' => e = .returned (.int .i64 (putC R a b)) ∧ NX w0 w' g r S (putS R a b x) X (k + 1) ∧ Chg (Out w0 X) w w' := by
  obtain ⟨F, m, rows, st, F2, Vl, ws, h1, h2, h3, h4, h5, h6, h7, h8, h9, h10⟩ := h
  refine (rf_Put a b h3 h4 (k := k + 1) (by omega) hk (hs.below h8) hx (fun hn bb off e hh => ?_)).mono ?_
  · obtain ⟨b', off', e', hlt, _⟩ := hs.2 (by omega)
    rw [e] at e'
    injection e' with e'
    injection e' with e1 _
    subst e1
    have hF : F2 bb := by
      rcases hh with hh | hh
      · exact h3.fl bb hh
      · subst hh; exact h3.fr
    have := h7 bb hF
    omega
  · rintro e w' ⟨rfl, hr⟩
    exact ⟨rfl, nx_ref h1 h2 h3 h6 h7 h8 h9 h10 hr⟩
theorem rx_Take (a b kk : Int) (h : NX w0 w g r S R X k) :
    Calls Try.prog 51 #[.pointer (some ⟨r, 0, none⟩), .int .i64 a, .int .i64 b, .int .i64 kk] w fun e w' => ∃ A1 c1, e = .returned (.tuple #[.slice A1 (takeX R a b kk).length c1, .int .i64 (takeC R a b kk)]) ∧ Sl w' 1 A1 (takeX R a b kk).length (bytes8 (takeX R a b kk)) ∧ NX w0 w' g r S (takeS R a b kk) X k ∧ Chg (Out w0 X) w w' := by
  obtain ⟨F, m, rows, st, F2, Vl, ws, h1, h2, h3, h4, h5, h6, h7, h8, h9, h10⟩ := h
  refine (rf_Take a b h3 kk h4 h5).mono ?_
  rintro e w' ⟨A1, c1, rfl, hs, hr⟩
  exact ⟨A1, c1, rfl, hs, nx_ref h1 h2 h3 h6 h7 h8 h9 h10 hr⟩
theorem rx_Double (a b kk : Int) (h : NX w0 w g r S R X k) (hk : k + 1 ≤ 1000) :
    Calls Try.prog 52 #[.pointer (some ⟨r, 0, none⟩), .int .i64 a, .int .i64 b, .int .i64 kk] w fun e w' => e = .returned (.int .i64 (dblC R a b kk)) ∧ NX w0 w' g r S (dblS R a b kk) X (k + 1) ∧ Chg (Out w0 X) w w' := by
  obtain ⟨F, m, rows, st, F2, Vl, ws, h1, h2, h3, h4, h5, h6, h7, h8, h9, h10⟩ := h
  refine (rf_Double a b h3 kk h4 (k := k + 1) (by omega) hk).mono ?_
  rintro e w' ⟨rfl, hr⟩
  exact ⟨rfl, nx_ref h1 h2 h3 h6 h7 h8 h9 h10 hr⟩
theorem rx_Clear (b : Int) (h : NX w0 w g r S R X k) :
    Calls Try.prog 54 #[.pointer (some ⟨r, 0, none⟩), .int .i64 b] w fun e w' => e = .returned (.tuple #[]) ∧ NX w0 w' g r S (clrA b R) X k ∧ Chg (Out w0 X) w w' := by
  obtain ⟨F, m, rows, st, F2, Vl, ws, h1, h2, h3, h4, h5, h6, h7, h8, h9, h10⟩ := h
  refine (rf_Clear b h3 h4 h5).mono ?_
  rintro e w' ⟨rfl, hr⟩
  exact ⟨rfl, nx_ref h1 h2 h3 h6 h7 h8 h9 h10 hr⟩
end
end Go.Proofs.Ytflamhndmggiaaa
/-
  Words of NetExact's walk: the beginning, the act's copy, a region whose calls change the nets.
-/
namespace Go.Proofs.Ytflamhndmggiaaa
open Go.RowKit

theorem nx_init {w0 w1 w2 : World} {g m r : Nat} (h : NtJ (fun b => b = g ∨ b = m) w1 g m (fun _ => none) (fun _ => [])) (hb : Below w0.heap.size w0 w1) (hg : w0.heap.size ≤ g) (hm : w0.heap.size ≤ m) (hb2 : Below w1.heap.size w1 w2) (hk : Blk w2 r 78 #[.slice none 0 0]) (hr : w1.heap.size ≤ r) :
    NX w0 w2 g r (fun _ => []) (fun _ => []) (fun _ => False) 0 := by
  have hne : ∀ b, b = g ∨ b = m → b ≠ r := fun b hb e => by have := h.lt b hb; omega
  have hR : RfJ (fun b => b = r) w2 r (.slice none 0 0) [] := {
    k := hk
    own := World.ownsRow_nil _ _ _ _
    row := fun x hx => (by cases hx)
    el := fun x hx => (by cases hx)
    drow := fun i i' x x' b hx => by simp at hx
    fr := rfl
    fl := fun b hb => (by cases hb)
    frow := fun x b hx => (by cases hx)
    fel := fun x p b hx => (by cases hx)
    lt := fun b hb => by subst hb; exact hk.lt
    cnt := fun x hx => (by cases hx)
    sm := fun x p hx => (by cases hx) }
  exact ⟨_, m, _, _, _, _, [], h.below hb2, fun _ => rfl, hR, fun a b => ⟨fun _ => rfl, fun i x hx => by have := hx.at_; simp at this⟩, Nat.le_refl _, fun b hb => ⟨hb.elim (fun e => by rw [e]; exact hg) (fun e => by rw [e]; exact hm), hne b hb⟩, fun b e => by subst e; exact Nat.le_trans hb.size hr, below_then hb hb2, fun b hb => hb.elim, fun a b h => absurd rfl h⟩
theorem alloc_act (w : World) : (Instr.alloc 68 true (.tuple #[])).run Try.prog w = .ok (.pointer (some ⟨w.heap.size, 0, none⟩)) (w.alloc (.cells #[.int .i64 0, .int .i64 0, .int .i64 0, .int .i64 0, .slice none 0 0] 68)) := by kernel_rfl
theorem info_act : (Try.prog.info? 68).map (·.size) = some 5 := by kernel_rfl
theorem one_act {d : ActD} : ∀ z ∈ (actC d).toList, z.oneCell' = true := by
  intro z hz
  simp [actC] at hz
  rcases hz with rfl | rfl | rfl | rfl | rfl <;> rfl
theorem ev_build0 {P : Program} {M : List (Nat × Value)} {o : Oper} {w : World} {v : Value} {T : TypeId} (ho : o.op = .build T #[]) (hr : ∀ w, (Instr.build T #[]).run P w = .ok v w) : Ev P M o w v := fun a n hM => by
  simp only [execOp, ho]
  simp [Sem.run_bind, hr]
section
variable {P : Program} {a : Act} {W : World}
theorem h_openS_cut {id : Nat} {Q : Exit → Act → World → Prop} {l : List Oper} {B : Code} (N : Nat) (hN : l.length = N) (T : Act → World → Prop) (S : World → Prop) (hm : P.follows .mixedOrders = true)
    (h : ∀ (w1 : World), Below W.heap.size W w1 → wpAnyH P .any l.toArray (OnlyN T) S N (Array.replicate N false) a w1) (hB : ∀ a' w', T a' w' → B.wp P Q a' w') : ((Code.region id l.toArray true).seq B).wp P Q a W := by
  subst hN
  refine wp_seq (wp_mono (Q := OnlyN T) (wp_region_held (S := S) hm ?_) ?_)
  · simpa using h W.drew (Below.refl _ W).drew
  · rintro e a' w' ⟨rfl, h⟩
    exact hB _ _ h
end
end Go.Proofs.Ytflamhndmggiaaa
