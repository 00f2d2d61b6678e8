
/-
  Contracts of wire's reader: a number, a count, a text.
-/
import Derived.Test.YtflamhndmggiaaaConv
namespace Go.Proofs.Ytflamhndmggiaaa
open Go.RowKit

theorem Sl.ne_cells {w : World} {A : Option Addr} {n g : Nat} {t : TypeId} {cs : Array Value} {bs : List UInt8} (h : Sl w 1 A n (bytes8 bs)) (hb : Blk w g t cs) (hc : ∀ (i : Nat) (k : IntKind) (z : Int), cs[i]? ≠ some (Value.int k z)) :
    ∀ b off, 0 < n → A = some ⟨b, off, none⟩ → b ≠ g := by
  rintro b off hn rfl rfl
  obtain ⟨b', off', u, e, _, hcell, _⟩ := h.byte (k := 0) hn
  injection e with e
  injection e with e1 e2
  subst e1
  rw [hb.cell] at hcell
  exact hc _ _ _ hcell
theorem Sl.set_ne {w : World} {A : Option Addr} {n size : Nat} {cs : List Value} (h : Sl w size A n cs) {p : Addr} (hne : ∀ b off, 0 < n → A = some ⟨b, off, none⟩ → b ≠ p.block) (u : Value) : Sl (w.setCell p u) size A n cs := by
  refine ⟨h.1, fun hn => ?_⟩
  obtain ⟨b, off, e, hb, hc⟩ := h.2 hn
  refine ⟨b, off, e, by simpa [World.setCell] using hb, fun j v hv => ?_⟩
  have h1 : (w.setCell p u).heap[b]? = w.heap[b]? := Below.heap_setCell w p u b (hne b off hn e)
  rw [World.cell?_of_block (a := ⟨b, off + j, none⟩) h1]
  exact hc j v hv
theorem grown_set (w : World) (g i : Nat) (u : Value) : w.grownBy (w.setCell ⟨g, i, none⟩ u) (some g) :=
  ⟨rfl, rfl, rfl, by simp [World.setCell], fun k _ hk => Below.heap_setCell w ⟨g, i, none⟩ u k (by rintro rfl; exact hk rfl)⟩
theorem grown_trans {w w1 w2 : World} {row : Option Nat} (h : w.grownBy w1 row) (h' : w1.grownBy w2 row) : w.grownBy w2 row :=
  ⟨h'.os.trans h.os, h'.tape.trans h.tape, h'.output.trans h.output, Nat.le_trans h.size h'.size, fun k hk hr => (h'.block k (Nat.lt_of_lt_of_le hk h.size) hr).trans (h.block k hk hr)⟩
theorem grown_refl (w : World) (row : Option Nat) : w.grownBy w row := ⟨rfl, rfl, rfl, Nat.le_refl _, fun _ _ _ => rfl⟩
theorem drop_bytes (bs : List UInt8) (k : Nat) : (bytes8 bs).drop (k * 1) = bytes8 (bs.drop k) := by rw [Nat.mul_one, bytes8, bytes8, List.map_drop]
theorem take_bytes (bs : List UInt8) (k : Nat) : (bytes8 bs).take (k * 1) = bytes8 (bs.take k) := by rw [Nat.mul_one, bytes8, bytes8, List.map_take]

/-- A slice whose block is older than block g. -/
def Old (A : Option Addr) (n g : Nat) : Prop := 0 < n → ∃ b off, A = some ⟨b, off, none⟩ ∧ b < g
/-- A reader: the bytes that are left; is something wrong? -/
def Rd (w : World) (g : Nat) (bs : List UInt8) (bad : Bool) : Prop :=
  ∃ A n c, Blk w g 129 #[.slice A n c, .bool bad] ∧ Sl w 1 A n (bytes8 bs) ∧ n ≤ c ∧ c ≤ 9223372036854775807 ∧ Old A n g
theorem old_ne {A : Option Addr} {n g : Nat} (h : Old A n g) : ∀ b off, 0 < n → A = some ⟨b, off, none⟩ → b ≠ g := by
  intro b off hn e
  obtain ⟨b', off', e', hb⟩ := h hn
  rw [e] at e'
  injection e' with e'
  injection e' with e1 e2
  omega
theorem old_cut {A : Option Addr} {n g k : Nat} (h : Old A n g) : Old (A.map (·.add k)) (n - k) g := by
  intro hn
  obtain ⟨b, off, rfl, hb⟩ := h (by omega)
  exact ⟨b, off + k, by simp [add_lit], hb⟩
theorem old_sub {A : Option Addr} {n g k : Nat} (h : Old A n g) : Old A (n - k) g := fun hn => h (by omega)
theorem Rd.lt {w : World} {g : Nat} {bs : List UInt8} {bad : Bool} (h : Rd w g bs bad) : g < w.heap.size := by
  obtain ⟨A, n, c, hb, _⟩ := h
  exact hb.lt
theorem Rd.below {w w' : World} {g : Nat} {bs : List UInt8} {bad : Bool} (h : Rd w g bs bad) (hb : Below w.heap.size w w') : Rd w' g bs bad := by
  obtain ⟨A, n, c, h1, h2, h3⟩ := h
  exact ⟨A, n, c, h1.later hb, h2.below hb, h3⟩
theorem Rd.grown {w w' : World} {g g' : Nat} {bs : List UInt8} {bad : Bool} (h : Rd w g bs bad) (hb : w.grownBy w' (some g')) (hg : g < g') : Rd w' g bs bad := by
  obtain ⟨A, n, c, h1, h2, h3, h4, h5⟩ := h
  refine ⟨A, n, c, h1.grown hb (by intro e; injection e with e; omega), ⟨h2.1, fun hn => ?_⟩, h3, h4, h5⟩
  obtain ⟨b, off, e, hlt, hc⟩ := h2.2 hn
  obtain ⟨b', off', e', hlt'⟩ := h5 hn
  rw [e] at e'
  injection e' with e'
  injection e' with e1 e2
  subst e1
  refine ⟨b, off, e, Nat.lt_of_lt_of_le hlt hb.size, fun j u hu => ?_⟩
  rw [World.cell?_of_block (a := ⟨b, off + j, none⟩) (hb.block b hlt (by intro e; injection e with e; omega))]
  exact hc j u hu
theorem Rd.alloc {w : World} {g : Nat} {bs : List UInt8} {bad : Bool} (h : Rd w g bs bad) (o : Obj) : Rd (w.alloc o) g bs bad := h.below ((Below.refl _ _).alloc (Nat.le_refl _) o)

set_option maxRecDepth 100000 in
set_option maxHeartbeats 400000 in
theorem rd_number_yes {g : Nat} {bs : List UInt8} {m k : Nat} (w : World) (h : Rd w g bs false) (hg : getN bs = some (m, k)) :
    Calls Try.prog 82 #[.pointer (some ⟨g, 0, none⟩)] w fun e w' => e = .returned (.int .i64 m) ∧ Rd w' g (bs.drop k) false ∧ w.grownBy w' (some g) := by
  obtain ⟨A, n, c, hb, hs, hnc, hc, hold⟩ := h
  have h0 : w.cell? ⟨g, 0, none⟩ = some (.slice A n c) := hb.at_ rfl
  have h1 : w.cell? ⟨g, 1, none⟩ = some (.bool false) := hb.at_ rfl
  have f0 := hb.frozen 0
  have f1 := hb.frozen 1
  have hk : k ≤ n := by
    have := (getN_some hg).2.2.2.2
    rw [hs.blen] at this
    exact this
  have HF1 : Hid (c = k → Rd (w.setCell ⟨g, 0, none⟩ (.slice A (n - k) 0)) g (bs.drop k) false) := fun e => by
    have h2 := hs.cut hk hnc
    rw [drop_bytes, if_pos e] at h2
    exact ⟨_, _, _, hb.set_ 0 _, h2.set_ne (old_ne (old_sub hold)) _, by omega, by omega, (old_sub hold)⟩
  have HF2 : Hid (¬ c = k → Rd (w.setCell ⟨g, 0, none⟩ (.slice (A.map (·.add k)) (n - k) (c - k))) g (bs.drop k) false) := fun e => by
    have h2 := hs.cut hk hnc
    rw [drop_bytes, if_neg e, Nat.mul_one] at h2
    exact ⟨_, _, _, hb.set_ 0 _, h2.set_ne (old_ne (old_cut hold)) _, by omega, by omega, (old_cut hold)⟩
  have HG : Hid (∀ u, w.grownBy (w.setCell ⟨g, 0, none⟩ u) (some g)) := grown_set w g 0
  have HS := hide hs
  have hg' := hide hg
  clear hs hb hg
  have hn : n ≤ 9223372036854775807 := by omega
  go_enter Try.func82, Try.ntmps82
  go_wp2_with (go_at_call 30; refine (wire_GetNum_yes _ HS.out hn hg'.out).mono ?_; rintro e w' ⟨rfl, rfl⟩)
  all_goals
    go_ret
    first
      | exact ⟨rfl, HF1.out (by assumption), HG.out _⟩
      | exact ⟨rfl, HF2.out (by assumption), HG.out _⟩

set_option maxRecDepth 100000 in
set_option maxHeartbeats 400000 in
theorem rd_number_no {g : Nat} {bs : List UInt8} {bad : Bool} (w : World) (h : Rd w g bs bad) (hg : bad = true ∨ getN bs = none) :
    Calls Try.prog 82 #[.pointer (some ⟨g, 0, none⟩)] w fun e w' => e = .returned (.int .i64 0) ∧ Rd w' g bs true ∧ w.grownBy w' (some g) := by
  obtain ⟨A, n, c, hb, hs, hnc, hc, hold⟩ := h
  have h0 : w.cell? ⟨g, 0, none⟩ = some (.slice A n c) := hb.at_ rfl
  have h1 : w.cell? ⟨g, 1, none⟩ = some (.bool bad) := hb.at_ rfl
  have f0 := hb.frozen 0
  have f1 := hb.frozen 1
  have HF : Hid (Rd (w.setCell ⟨g, 1, none⟩ (.bool true)) g bs true) := ⟨_, _, _, hb.set_ 1 _, hs.set_ne (old_ne hold) _, hnc, hc, hold⟩
  have HG := hide (grown_set w g 1 (.bool true))
  have HS := hide hs
  clear hs hb
  have hn : n ≤ 9223372036854775807 := by omega
  cases bad with
  | true =>
    clear hg
    cases hg : getN bs with
    | none =>
      have hg' := hide hg
      clear hg
      go_enter Try.func82, Try.ntmps82
      go_wp2_with (go_at_call 30; refine (wire_GetNum_no _ HS.out hn hg'.out).mono ?_; rintro e w' ⟨rfl, rfl⟩)
      go_ret
      exact ⟨rfl, HF.out, HG.out⟩
    | some p =>
      obtain ⟨m, k⟩ := p
      have hg' := hide hg
      clear hg
      go_enter Try.func82, Try.ntmps82
      go_wp2_with (go_at_call 30; refine (wire_GetNum_yes _ HS.out hn hg'.out).mono ?_; rintro e w' ⟨rfl, rfl⟩)
      go_ret
      exact ⟨rfl, HF.out, HG.out⟩
  | false =>
    have hg' : Hid (getN bs = none) := by
      rcases hg with h | h
      · cases h
      · exact h
    clear hg
    go_enter Try.func82, Try.ntmps82
    go_wp2_with (go_at_call 30; refine (wire_GetNum_no _ HS.out hn hg'.out).mono ?_; rintro e w' ⟨rfl, rfl⟩)
    go_ret
    exact ⟨rfl, HF.out, HG.out⟩

/-- What is counted. -/
def cntN (bs : List UInt8) : Option (Nat × Nat) :=
  match getN bs with
  | none => none
  | some (m, k) => if m ≤ (bs.drop k).length then some (m, k) else none
theorem cntN_some {bs : List UInt8} {m k : Nat} (h : cntN bs = some (m, k)) : getN bs = some (m, k) ∧ m ≤ (bs.drop k).length := by
  unfold cntN at h
  cases hg : getN bs with
  | none => rw [hg] at h; cases h
  | some p =>
    obtain ⟨m', k'⟩ := p
    rw [hg] at h
    simp only at h
    split at h
    · rename_i hm
      injection h with h
      injection h with e1 e2
      subst e1; subst e2
      exact ⟨rfl, hm⟩
    · cases h
set_option maxRecDepth 100000 in
set_option maxHeartbeats 400000 in
theorem rd_count_yes {g : Nat} {bs : List UInt8} {m k : Nat} (w : World) (h : Rd w g bs false) (hg : cntN bs = some (m, k)) :
    Calls Try.prog 83 #[.pointer (some ⟨g, 0, none⟩)] w fun e w' => e = .returned (.int .i64 m) ∧ Rd w' g (bs.drop k) false ∧ w.grownBy w' (some g) := by
  obtain ⟨hg1, hm1⟩ := cntN_some hg
  have hg' := hide hg1
  have hm := hide hm1
  clear hg hg1 hm1
  go_enter Try.func83, Try.ntmps83
  go_wp2_with fail
  refine (rd_number_yes _ h hg'.out).mono ?_
  rintro e w1 ⟨rfl, hr, hgr⟩
  obtain ⟨A, n, c, hb, hs, hnc, hc, hold⟩ := hr
  have h0 : w1.cell? ⟨g, 0, none⟩ = some (.slice A n c) := hb.at_ rfl
  have h1 : w1.cell? ⟨g, 1, none⟩ = some (.bool false) := hb.at_ rfl
  have f0 := hb.frozen 0
  have f1 := hb.frozen 1
  have hm2 : decide (n < m) = false := by
    have := hm.out
    rw [hs.blen] at this
    rw [decide_eq_false_iff_not]; omega
  have HF : Hid (Rd (w1.setCell ⟨g, 1, none⟩ (.bool false)) g (bs.drop k) false) := ⟨_, _, _, hb.set_ 1 _, hs.set_ne (old_ne hold) _, hnc, hc, hold⟩
  have HG := hide (grown_trans hgr (grown_set w1 g 1 (.bool false)))
  clear hs hb hgr h
  go_wp2_with fail
  go_ret
  exact ⟨rfl, HF.out, HG.out⟩
set_option maxRecDepth 100000 in
set_option maxHeartbeats 400000 in
theorem rd_count_no {g : Nat} {bs : List UInt8} {bad : Bool} (w : World) (h : Rd w g bs bad) (hg : bad = true ∨ cntN bs = none) :
    Calls Try.prog 83 #[.pointer (some ⟨g, 0, none⟩)] w fun e w' => e = .returned (.int .i64 0) ∧ (∃ bs', Rd w' g bs' true) ∧ w.grownBy w' (some g) := by
  have two : (bad = true ∨ getN bs = none) ∨ (bad = false ∧ ∃ m k, getN bs = some (m, k) ∧ (bs.drop k).length < m) := by
    rcases hg with hg | hg
    · exact .inl (.inl hg)
    · cases bad with
      | true => exact .inl (.inl rfl)
      | false =>
        unfold cntN at hg
        cases h1 : getN bs with
        | none => exact .inl (.inr rfl)
        | some p =>
          obtain ⟨m, k⟩ := p
          rw [h1] at hg
          simp only at hg
          by_cases hm : m ≤ (bs.drop k).length
          · rw [if_pos hm] at hg; cases hg
          · exact .inr ⟨rfl, m, k, rfl, by omega⟩
  rcases two with hg | ⟨rfl, m, k, hg, hm⟩
  · go_enter Try.func83, Try.ntmps83
    go_wp2_with fail
    refine (rd_number_no _ h hg).mono ?_
    rintro e w1 ⟨rfl, hr, hgr⟩
    obtain ⟨A, n, c, hb, hs, hnc, hc, hold⟩ := hr
    have h0 : w1.cell? ⟨g, 0, none⟩ = some (.slice A n c) := hb.at_ rfl
    have h1 : w1.cell? ⟨g, 1, none⟩ = some (.bool true) := hb.at_ rfl
    have f0 := hb.frozen 0
    have f1 := hb.frozen 1
    have HF : Hid (∃ bs', Rd (w1.setCell ⟨g, 1, none⟩ (.bool true)) g bs' true) := ⟨_, _, _, _, hb.set_ 1 _, hs.set_ne (old_ne hold) _, hnc, hc, hold⟩
    have HG := hide (grown_trans hgr (grown_set w1 g 1 (.bool true)))
    clear hs hb hgr h hg
    go_wp2_with fail
    go_ret
    exact ⟨rfl, HF.out, HG.out⟩
  · have hg' := hide hg
    have hm' := hide hm
    clear hg hm
    go_enter Try.func83, Try.ntmps83
    go_wp2_with fail
    refine (rd_number_yes _ h hg'.out).mono ?_
    rintro e w1 ⟨rfl, hr, hgr⟩
    obtain ⟨A, n, c, hb, hs, hnc, hc, hold⟩ := hr
    have h0 : w1.cell? ⟨g, 0, none⟩ = some (.slice A n c) := hb.at_ rfl
    have h1 : w1.cell? ⟨g, 1, none⟩ = some (.bool false) := hb.at_ rfl
    have f0 := hb.frozen 0
    have f1 := hb.frozen 1
    have hm2 : decide (n < m) = true := by
      have := hm'.out
      rw [hs.blen] at this
      rw [decide_eq_true_eq]; omega
    have HF : Hid (∃ bs', Rd (w1.setCell ⟨g, 1, none⟩ (.bool true)) g bs' true) := ⟨_, _, _, _, hb.set_ 1 _, hs.set_ne (old_ne hold) _, hnc, hc, hold⟩
    have HG := hide (grown_trans hgr (grown_set w1 g 1 (.bool true)))
    clear hs hb hgr h
    go_wp2_with fail
    go_ret
    exact ⟨rfl, HF.out, HG.out⟩

set_option maxRecDepth 100000 in
set_option maxHeartbeats 400000 in
theorem rd_text_yes {g : Nat} {bs : List UInt8} {m k : Nat} (w : World) (h : Rd w g bs false) (hg : cntN bs = some (m, k)) :
    Calls Try.prog 80 #[.pointer (some ⟨g, 0, none⟩)] w fun e w' => e = .returned (.string (tx ((bs.drop k).take m))) ∧ Rd w' g (bs.drop (k + m)) false ∧ w.grownBy w' (some g) := by
  have hm := hide (cntN_some hg).2
  have hg' := hide hg
  clear hg
  go_enter Try.func80, Try.ntmps80
  go_wp2_with fail
  refine (rd_count_yes _ h hg'.out).mono ?_
  rintro e w1 ⟨rfl, hr, hgr⟩
  obtain ⟨A, n, c, hb, hs, hnc, hc, hold⟩ := hr
  have h0 : w1.cell? ⟨g, 0, none⟩ = some (.slice A n c) := hb.at_ rfl
  have h1 : w1.cell? ⟨g, 1, none⟩ = some (.bool false) := hb.at_ rfl
  have f0 := hb.frozen 0
  have f1 := hb.frozen 1
  have hmn : m ≤ n := by
    have := hm.out
    rw [hs.blen] at this
    exact this
  have hmc : m ≤ c := by omega
  have hcv : (convert 28 9 (.slice A m c)).run Try.prog w1 = .ok (.string (tx ((bs.drop k).take m))) w1 := by
    have h2 := hs.take hmn
    rw [take_bytes] at h2
    exact run_str_of_bytes w1 _ _ _ Try.underlying28 Try.underlying5 Try.underlying9 h2
  have HF1 : Hid (c = m → Rd (w1.setCell ⟨g, 0, none⟩ (.slice A (n - m) 0)) g (bs.drop (k + m)) false) := fun e => by
    have h2 := hs.cut hmn hnc
    rw [drop_bytes, if_pos e, List.drop_drop] at h2
    exact ⟨_, _, _, hb.set_ 0 _, h2.set_ne (old_ne (old_sub hold)) _, by omega, by omega, (old_sub hold)⟩
  have HF2 : Hid (¬ c = m → Rd (w1.setCell ⟨g, 0, none⟩ (.slice (A.map (·.add m)) (n - m) (c - m))) g (bs.drop (k + m)) false) := fun e => by
    have h2 := hs.cut hmn hnc
    rw [drop_bytes, if_neg e, Nat.mul_one, List.drop_drop] at h2
    exact ⟨_, _, _, hb.set_ 0 _, h2.set_ne (old_ne (old_cut hold)) _, by omega, by omega, (old_cut hold)⟩
  have HG : Hid (∀ u, w.grownBy (w1.setCell ⟨g, 0, none⟩ u) (some g)) := fun u => grown_trans hgr (grown_set w1 g 0 u)
  clear hs hb hgr h
  go_wp2_with fail
  all_goals
    go_ret
    first
      | exact ⟨rfl, HF1.out (by assumption), HG.out _⟩
      | exact ⟨rfl, HF2.out (by assumption), HG.out _⟩
set_option maxRecDepth 100000 in
set_option maxHeartbeats 400000 in
theorem rd_text_no {g : Nat} {bs : List UInt8} {bad : Bool} (w : World) (h : Rd w g bs bad) (hg : bad = true ∨ cntN bs = none) :
    Calls Try.prog 80 #[.pointer (some ⟨g, 0, none⟩)] w fun e w' => (∃ s, e = .returned (.string s)) ∧ (∃ bs', Rd w' g bs' true) ∧ w.grownBy w' (some g) := by
  go_enter Try.func80, Try.ntmps80
  go_wp2_with fail
  refine (rd_count_no _ h hg).mono ?_
  rintro e w1 ⟨rfl, hr, hgr⟩
  obtain ⟨bs', A, n, c, hb, hs, hnc, hc, hold⟩ := hr
  have h0 : w1.cell? ⟨g, 0, none⟩ = some (.slice A n c) := hb.at_ rfl
  have h1 : w1.cell? ⟨g, 1, none⟩ = some (.bool true) := hb.at_ rfl
  have f0 := hb.frozen 0
  have f1 := hb.frozen 1
  have hcv : (convert 28 9 (.slice A 0 c)).run Try.prog w1 = .ok (.string (tx (bs'.take 0))) w1 := by
    have h2 := hs.take (Nat.zero_le n)
    rw [take_bytes] at h2
    exact run_str_of_bytes w1 _ _ _ Try.underlying28 Try.underlying5 Try.underlying9 h2
  have HF : ∀ A' c', (A' = A ∨ 0 < n ∧ A' = A.map (·.add 0)) → c' = c → Hid (Rd (w1.setCell ⟨g, 0, none⟩ (.slice A' n c')) g bs' true) := by
    rintro A' c' hA rfl
    have hA' : A' = A ∨ A' = A.map (·.add 0) := by rcases hA with h | h; exact .inl h; exact .inr h.2
    have e : A.map (·.add 0) = A := by cases A <;> simp [Addr.add]
    rw [e] at hA'
    obtain rfl : A' = A := by rcases hA' with h | h <;> exact h
    exact ⟨_, _, _, hb.set_ 0 _, hs.set_ne (old_ne hold) _, hnc, hc, hold⟩
  have HG := fun u => hide (grown_trans hgr (grown_set w1 g 0 u))
  have HF2 := hide HF
  have HG2 := hide HG
  clear hs hb hgr h HF HG hg
  go_wp2_with fail
  go_ret
  refine ⟨⟨_, rfl⟩, ⟨bs', ?_⟩, HG2.out _⟩
  first
    | exact HF2.out _ _ (.inl rfl) rfl
    | (simp only [Nat.sub_zero]; exact HF2.out _ _ (by split <;> simp [Addr.add]) rfl)
end Go.Proofs.Ytflamhndmggiaaa
