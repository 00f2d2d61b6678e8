
/-
  The reference's book: its memory, contracts of Find, Signed, Sign.
-/
import Derived.Test.YtflamhndmggiaaaBkD
namespace Go.Proofs.Ytflamhndmggiaaa
open Go.RowKit

/-- The reference's book's memory: blocks G in all; things L; who (aa) signed what (bb). -/
structure RfG (G : Nat → Prop) (w : World) (g : Nat) (L : List (List UInt8)) (aa bb : List Int) : Prop where
  mk ::
  lt : ∀ b, G b → b < w.heap.size
  in_ : G g
  sm : ∀ x ∈ L, x.length ≤ 1048576
  rest : ∃ (F E : Nat → Prop) (v : Value) (A2 A3 : Option Addr) (c2 c3 : Nat), (∀ b, F b → G b) ∧ (∀ b, E b → G b) ∧ (∀ b, F b → ¬ E b) ∧ F g ∧ Blk w g 59 #[v, .slice A2 aa.length c2, .slice A3 bb.length c3] ∧ RwF F E w 28 v L ∧
    w.ownsRow 0 3 1 (.slice A2 aa.length c2) aa.length (ints aa) ∧ w.ownsRow 0 3 1 (.slice A3 bb.length c3) bb.length (ints bb) ∧
    (∀ b, (Value.slice A2 aa.length c2).ownBlock = some b → F b) ∧ (∀ b, (Value.slice A3 bb.length c3).ownBlock = some b → F b) ∧ (∀ b, (Value.slice A2 aa.length c2).ownBlock = some b → (Value.slice A3 bb.length c3).ownBlock ≠ some b)
def RfM (G : Nat → Prop) (g : Nat) (L : List (List UInt8)) (aa bb : List Int) (w w' : World) : Prop := ∃ G', RfG G' w' g L aa bb ∧ (∀ b, G' b → G b ∨ w.heap.size ≤ b) ∧ Chg G w w'
/-- .. pairs ps: who signed what. -/
def RfI (G : Nat → Prop) (w : World) (g : Nat) (L : List (List UInt8)) (ps : List (Int × Int)) : Prop := RfG G w g L (ps.map (·.1)) (ps.map (·.2))
def RfN (G : Nat → Prop) (g : Nat) (L : List (List UInt8)) (ps : List (Int × Int)) (w w' : World) : Prop := ∃ G', RfI G' w' g L ps ∧ (∀ b, G' b → G b ∨ w.heap.size ≤ b) ∧ Chg G w w'
theorem RfI.keep {G H : Nat → Prop} {w w' : World} {g : Nat} {L : List (List UInt8)} {ps : List (Int × Int)} (h : RfI G w g L ps) (hc : Chg H w w') (ha : ∀ b, G b → ¬ H b) : RfI G w' g L ps := by
  obtain ⟨hlt, hin, hsm, F, E, v, A2, A3, c2, c3, h1, h2, h3, h4, h5, h6, h7, h8, h9, h10, h11⟩ := h
  have hk : ∀ b, G b → w'.heap[b]? = w.heap[b]? := fun b hb => hc.at_ (hlt b hb) (ha b hb)
  exact ⟨fun b hb => Nat.lt_of_lt_of_le (hlt b hb) hc.size, hin, hsm, F, E, v, A2, A3, c2, c3, h1, h2, h3, h4, h5.at_block (hk _ (h1 _ h4)),
    h6.keep hc.size (fun b _ hb => hk b (h1 b (h6.inF hb))) (fun b _ hb => hk b (h2 b hb)) (fun _ => id) (fun _ => id), own_at h7 (fun b hb => hk b (h1 b (h9 b hb))), own_at h8 (fun b hb => hk b (h1 b (h10 b hb))), h9, h10, h11⟩
theorem RfI.below {G : Nat → Prop} {w w' : World} {g : Nat} {L : List (List UInt8)} {ps : List (Int × Int)} (h : RfI G w g L ps) (hb : Below w.heap.size w w') : RfI G w' g L ps := h.keep (Chg.of_below (F := fun _ => False) hb) (fun _ _ => id)
theorem RfI.drewN {G : Nat → Prop} {w : World} {g : Nat} {L : List (List UInt8)} {ps : List (Int × Int)} (h : RfI G w g L ps) (n : Nat) : RfI G (w.drewN n) g L ps := h.keep ((Chg.refl (fun _ => False) w).drewN n) (fun _ _ => id)
/-- An empty one, just made. -/
theorem RfI.made (w : World) : RfI (fun b => b = w.heap.size) (w.alloc (.cells #[.slice none 0 0, .slice none 0 0, .slice none 0 0] 59)) w.heap.size [] [] :=
  ⟨fun b hb => by subst hb; simp, rfl, by simp, fun b => b = w.heap.size, fun _ => False, .slice none 0 0, none, none, 0, 0, fun _ => id, fun _ hf => hf.elim, fun _ _ => id, rfl, Blk.new _ _ _, RwF.nil_, World.ownsRow_nil _ _ _ _, World.ownsRow_nil _ _ _ _, (fun b hb => by cases hb), (fun b hb => by cases hb), (fun b hb => by cases hb)⟩
theorem RfI.open_ {G : Nat → Prop} {w : World} {g : Nat} {L : List (List UInt8)} {ps : List (Int × Int)} (h : RfI G w g L ps) :
    ∃ A c A2 c2 A3 c3, w.cell? ⟨g, 0, none⟩ = some (.slice A L.length c) ∧ w.cell? ⟨g, 1, none⟩ = some (.slice A2 ps.length c2) ∧ w.cell? ⟨g, 2, none⟩ = some (.slice A3 ps.length c3) ∧ L.length ≤ 9223372036854775807 ∧ ps.length ≤ 9223372036854775807 ∧
      Sl w 1 A2 ps.length (ints (ps.map (·.1))) ∧ Sl w 1 A3 ps.length (ints (ps.map (·.2))) ∧
      ∀ (i : Nat) (x : List UInt8), L[i]? = some x → ∃ b A1 c1, A = some ⟨b, 0, none⟩ ∧ w.cell? ⟨b, i, none⟩ = some (.slice A1 x.length c1) ∧ Sl w 1 A1 x.length (bytes8 x) ∧ x.length ≤ 1048576 := by
  obtain ⟨_, _, hsm, F, E, v, A2, A3, c2, c3, _, _, _, _, hb, hr, o2, o3, _⟩ := h
  rw [List.length_map] at hb o2
  rw [List.length_map] at hb o3
  obtain ⟨A, c, rfl, hl⟩ := hr.val
  obtain ⟨_, _, e, q1, q2⟩ := own_slice_cap o2
  unfold maxLen at q2
  refine ⟨A, c, A2, c2, A3, c3, hb.at_ rfl, hb.at_ rfl, hb.at_ rfl, hl, by omega, Sl.of_own o2, Sl.of_own o3, fun i x hx => ?_⟩
  obtain ⟨b, c', A1, c1, e, _, k1, k2, k3, k4⟩ := hr.at_ hx
  injection e with e
  exact ⟨b, A1, c1, e, k1, k4, hsm x (mem_of_at hx)⟩

theorem RfG.pushA {G : Nat → Prop} {w : World} {g : Nat} {L : List (List UInt8)} {aa bb : List Int} (h : RfG G w g L aa bb) :
    ∃ X c, w.cell? ⟨g, 1, none⟩ = some (.slice X aa.length c) ∧ aa.length ≤ 9223372036854775807 ∧ w.ownsRow 0 3 1 (.slice X aa.length c) aa.length (ints aa) ∧
      ∀ (o : Obj) (u : Int) (w1 : World) (X' : Option Addr) (c' : Nat), (w.alloc o).grownBy w1 (Value.slice X aa.length c).ownBlock → w1.ownsRow 0 3 1 (.slice X' (aa.length + 1) c') (aa.length + 1) (ints aa ++ [.int .i64 u]) →
        ((Value.slice X' (aa.length + 1) c').ownBlock = (Value.slice X aa.length c).ownBlock ∨ (Value.slice X' (aa.length + 1) c').ownBlock = some (w.heap.size + 1)) →
        w1.cell? ⟨g, 1, none⟩ = some (.slice X aa.length c) ∧ w1.frozen? ⟨g, 1, none⟩ = false ∧ RfM G g L (aa ++ [u]) bb w (w1.setCell ⟨g, 1, none⟩ (.slice X' (aa.length + 1) c')) := by
  obtain ⟨hlt, hin, hsm, F, E, v, A2, A3, c2, c3, h1, h2, h3, h4, h5, h6, h7, h8, h9, h10, h11⟩ := h
  obtain ⟨_, _, _, q1, q2⟩ := own_slice_cap h7
  unfold maxLen at q2
  refine ⟨A2, c2, h5.at_ rfl, by omega, h7, fun o u w1 X' c' hg own1 hat => ?_⟩
  have hz : (w.alloc o).heap.size = w.heap.size + 1 := by simp
  have z2 := hg.size
  have hgl := hlt g hin
  have rowg : (Value.slice A2 aa.length c2).ownBlock ≠ some g := own_blk_ne h7 h5 (by decide)
  have kb1 : Blk w1 g 59 #[v, .slice A2 aa.length c2, .slice A3 bb.length c3] := (h5.alloc o).grown hg (fun e => rowg e.symm)
  have row1 : ∀ b, (Value.slice X' (aa.length + 1) c').ownBlock = some b → ((Value.slice A2 aa.length c2).ownBlock = some b ∨ b = w.heap.size + 1) ∧ b ≠ g ∧ b < w1.heap.size := fun b hb => by
    have hl := own_in own1 hb
    have ng : b ≠ g := by rintro rfl; exact own_blk_ne own1 kb1 (by decide) hb
    rcases hat with h | h
    · exact ⟨.inl (by rw [← h]; exact hb), ng, hl⟩
    · rw [hb] at h; injection h with h; exact ⟨.inr h, ng, hl⟩
  have stay : ∀ b, b < w.heap.size → b ≠ g → (Value.slice A2 aa.length c2).ownBlock ≠ some b → (w1.setCell ⟨g, 1, none⟩ (.slice X' (aa.length + 1) c')).heap[b]? = w.heap[b]? := fun b hb n1 n2 => by
    rw [Below.heap_setCell w1 _ _ b n1, hg.block b (by omega) (fun e => n2 e.symm), Below.heap_alloc w o b hb]
  have zs : (w1.setCell ⟨g, 1, none⟩ (.slice X' (aa.length + 1) c')).heap.size = w1.heap.size := by simp [World.setCell]
  have rowv : ∀ b, v.ownBlock = some b → (Value.slice A2 aa.length c2).ownBlock ≠ some b := fun b hb e => by
    obtain ⟨cur, hc⟩ := h6.cells hb
    rcases h7.2 with ⟨e0, _⟩ | ⟨g', cap, cur', e0, _, hh, _⟩
    · injection e0 with e1; rw [e1] at e; cases e
    · injection e0 with e1; rw [e1] at e; injection e with e; subst e
      rw [hc] at hh; injection hh with hh; injection hh with _ ht; exact absurd ht (by decide)
  refine ⟨kb1.at_ rfl, kb1.frozen 1, fun b => G b ∨ (w.heap.size ≤ b ∧ b < w1.heap.size), ⟨?_, .inl hin, hsm, fun b => F b ∨ (Value.slice X' (aa.length + 1) c').ownBlock = some b, E, v, X', A3, c', c3, ?_, fun b hb => .inl (h2 b hb), ?_, .inl h4, ?_, ?_, ?_, ?_, ?_, ?_, ?_⟩, ?_, ?_⟩
  · rintro b (hb | hb)
    · have := hlt b hb; omega
    · omega
  · rintro b (hb | hb)
    · exact .inl (h1 b hb)
    · obtain ⟨h, _, hl⟩ := row1 b hb
      rcases h with h | h
      · exact .inl (h1 b (h9 b h))
      · exact .inr ⟨by omega, hl⟩
  · rintro b (hb | hb) he
    · exact h3 b hb he
    · obtain ⟨h, _⟩ := row1 b hb
      rcases h with h | h
      · exact h3 b (h9 b h) he
      · have := hlt b (h2 b he); omega
  · have := kb1.set_ 1 (.slice X' (aa.length + 1) c')
    rw [show (aa ++ [u]).length = aa.length + 1 by simp, show bb.length = bb.length by simp]
    exact this
  · exact h6.keep (by omega) (fun b hb hv => stay b hb (fun e => by subst e; exact h6.not_blk h5 (by decide) hv) (rowv b hv)) (fun b hb hE => stay b hb (fun e => by subst e; exact h3 _ h4 hE) (fun e => h3 _ (h9 b e) hE)) (fun b hb => .inl hb) (fun _ => id)
  · rw [show (aa ++ [u]).length = aa.length + 1 by simp, show ints (aa ++ [u]) = ints aa ++ [.int .i64 u] by simp [ints]]
    exact own_at own1 (fun b hb => Below.heap_setCell w1 _ _ b (row1 b hb).2.1)
  · exact own_at h8 (fun b hb => stay b (own_in h8 hb) (fun e => by subst e; exact own_blk_ne h8 h5 (by decide) hb) (fun e => h11 b e hb))
  · rw [show (aa ++ [u]).length = aa.length + 1 by simp]; exact fun b hb => .inr hb
  · exact fun b hb => .inl (h10 b hb)
  · rw [show (aa ++ [u]).length = aa.length + 1 by simp]
    intro b hb e
    obtain ⟨h, _⟩ := row1 b hb
    rcases h with h | h
    · exact h11 b h e
    · have := own_in h8 e; omega
  · rintro b (hb | hb)
    · exact .inl hb
    · exact .inr hb.1
  · refine ⟨hg.os, hg.tape, hg.output, by omega, fun b hb hn => stay b hb ?_ ?_⟩
    · rintro rfl; exact hn hin
    · intro e; exact hn (h1 b (h9 b e))
theorem RfG.pushB {G : Nat → Prop} {w : World} {g : Nat} {L : List (List UInt8)} {aa bb : List Int} (h : RfG G w g L aa bb) :
    ∃ X c, w.cell? ⟨g, 2, none⟩ = some (.slice X bb.length c) ∧ bb.length ≤ 9223372036854775807 ∧ w.ownsRow 0 3 1 (.slice X bb.length c) bb.length (ints bb) ∧
      ∀ (o : Obj) (u : Int) (w1 : World) (X' : Option Addr) (c' : Nat), (w.alloc o).grownBy w1 (Value.slice X bb.length c).ownBlock → w1.ownsRow 0 3 1 (.slice X' (bb.length + 1) c') (bb.length + 1) (ints bb ++ [.int .i64 u]) →
        ((Value.slice X' (bb.length + 1) c').ownBlock = (Value.slice X bb.length c).ownBlock ∨ (Value.slice X' (bb.length + 1) c').ownBlock = some (w.heap.size + 1)) →
        w1.cell? ⟨g, 2, none⟩ = some (.slice X bb.length c) ∧ w1.frozen? ⟨g, 2, none⟩ = false ∧ RfM G g L aa (bb ++ [u]) w (w1.setCell ⟨g, 2, none⟩ (.slice X' (bb.length + 1) c')) := by
  obtain ⟨hlt, hin, hsm, F, E, v, A2, A3, c2, c3, h1, h2, h3, h4, h5, h6, h7, h8, h9, h10, h11⟩ := h
  obtain ⟨_, _, _, q1, q2⟩ := own_slice_cap h8
  unfold maxLen at q2
  refine ⟨A3, c3, h5.at_ rfl, by omega, h8, fun o u w1 X' c' hg own1 hat => ?_⟩
  have hz : (w.alloc o).heap.size = w.heap.size + 1 := by simp
  have z2 := hg.size
  have hgl := hlt g hin
  have rowg : (Value.slice A3 bb.length c3).ownBlock ≠ some g := own_blk_ne h8 h5 (by decide)
  have kb1 : Blk w1 g 59 #[v, .slice A2 aa.length c2, .slice A3 bb.length c3] := (h5.alloc o).grown hg (fun e => rowg e.symm)
  have row1 : ∀ b, (Value.slice X' (bb.length + 1) c').ownBlock = some b → ((Value.slice A3 bb.length c3).ownBlock = some b ∨ b = w.heap.size + 1) ∧ b ≠ g ∧ b < w1.heap.size := fun b hb => by
    have hl := own_in own1 hb
    have ng : b ≠ g := by rintro rfl; exact own_blk_ne own1 kb1 (by decide) hb
    rcases hat with h | h
    · exact ⟨.inl (by rw [← h]; exact hb), ng, hl⟩
    · rw [hb] at h; injection h with h; exact ⟨.inr h, ng, hl⟩
  have stay : ∀ b, b < w.heap.size → b ≠ g → (Value.slice A3 bb.length c3).ownBlock ≠ some b → (w1.setCell ⟨g, 2, none⟩ (.slice X' (bb.length + 1) c')).heap[b]? = w.heap[b]? := fun b hb n1 n2 => by
    rw [Below.heap_setCell w1 _ _ b n1, hg.block b (by omega) (fun e => n2 e.symm), Below.heap_alloc w o b hb]
  have zs : (w1.setCell ⟨g, 2, none⟩ (.slice X' (bb.length + 1) c')).heap.size = w1.heap.size := by simp [World.setCell]
  have rowv : ∀ b, v.ownBlock = some b → (Value.slice A3 bb.length c3).ownBlock ≠ some b := fun b hb e => by
    obtain ⟨cur, hc⟩ := h6.cells hb
    rcases h8.2 with ⟨e0, _⟩ | ⟨g', cap, cur', e0, _, hh, _⟩
    · injection e0 with e1; rw [e1] at e; cases e
    · injection e0 with e1; rw [e1] at e; injection e with e; subst e
      rw [hc] at hh; injection hh with hh; injection hh with _ ht; exact absurd ht (by decide)
  refine ⟨kb1.at_ rfl, kb1.frozen 2, fun b => G b ∨ (w.heap.size ≤ b ∧ b < w1.heap.size), ⟨?_, .inl hin, hsm, fun b => F b ∨ (Value.slice X' (bb.length + 1) c').ownBlock = some b, E, v, A2, X', c2, c', ?_, fun b hb => .inl (h2 b hb), ?_, .inl h4, ?_, ?_, ?_, ?_, ?_, ?_, ?_⟩, ?_, ?_⟩
  · rintro b (hb | hb)
    · have := hlt b hb; omega
    · omega
  · rintro b (hb | hb)
    · exact .inl (h1 b hb)
    · obtain ⟨h, _, hl⟩ := row1 b hb
      rcases h with h | h
      · exact .inl (h1 b (h10 b h))
      · exact .inr ⟨by omega, hl⟩
  · rintro b (hb | hb) he
    · exact h3 b hb he
    · obtain ⟨h, _⟩ := row1 b hb
      rcases h with h | h
      · exact h3 b (h10 b h) he
      · have := hlt b (h2 b he); omega
  · have := kb1.set_ 2 (.slice X' (bb.length + 1) c')
    rw [show aa.length = aa.length by simp, show (bb ++ [u]).length = bb.length + 1 by simp]
    exact this
  · exact h6.keep (by omega) (fun b hb hv => stay b hb (fun e => by subst e; exact h6.not_blk h5 (by decide) hv) (rowv b hv)) (fun b hb hE => stay b hb (fun e => by subst e; exact h3 _ h4 hE) (fun e => h3 _ (h10 b e) hE)) (fun b hb => .inl hb) (fun _ => id)
  · exact own_at h7 (fun b hb => stay b (own_in h7 hb) (fun e => by subst e; exact own_blk_ne h7 h5 (by decide) hb) (fun e => h11 b hb e))
  · rw [show (bb ++ [u]).length = bb.length + 1 by simp, show ints (bb ++ [u]) = ints bb ++ [.int .i64 u] by simp [ints]]
    exact own_at own1 (fun b hb => Below.heap_setCell w1 _ _ b (row1 b hb).2.1)
  · exact fun b hb => .inl (h9 b hb)
  · rw [show (bb ++ [u]).length = bb.length + 1 by simp]; exact fun b hb => .inr hb
  · rw [show (bb ++ [u]).length = bb.length + 1 by simp]
    intro b hb e
    obtain ⟨h, _⟩ := row1 b e
    rcases h with h | h
    · exact h11 b hb h
    · have := own_in h7 hb; omega
  · rintro b (hb | hb)
    · exact .inl hb
    · exact .inr hb.1
  · refine ⟨hg.os, hg.tape, hg.output, by omega, fun b hb hn => stay b hb ?_ ?_⟩
    · rintro rfl; exact hn hin
    · intro e; exact hn (h1 b (h10 b e))
theorem fnd_drop_step {L : List (List UInt8)} {x : List UInt8} {k : Nat} (h : ∀ j, j < k → L[j]? ≠ some x) (hk : L[k]? ≠ some x) : ∀ j, j < k + 1 → L[j]? ≠ some x := fun j hj => by
  rcases Nat.lt_or_ge j k with h' | h'
  · exact h j h'
  · obtain rfl : j = k := by omega
    exact hk
theorem fnd_none_of {L : List (List UInt8)} {x : List UInt8} (h : ∀ j, j < L.length → L[j]? ≠ some x) : fnd L x = none := by
  cases hf : fnd L x with
  | none => rfl
  | some i => exact absurd (fnd_some hf).1 (h i (fnd_lt hf))

set_option maxRecDepth 100000 in
set_option maxHeartbeats 1000000 in
theorem ref5_Find {G : Nat → Prop} {g : Nat} {L : List (List UInt8)} {ps : List (Int × Int)} {A : Option Addr} {n c : Nat} {x : List UInt8} (w : World) (h : RfI G w g L ps) (hs : Sl w 1 A n (bytes8 x)) (hn : n ≤ 9223372036854775807) {r : Int} (hr : Hid (fndN (fnd L x) = r)) :
    Calls Try.prog 35 #[.pointer (some ⟨g, 0, none⟩), .slice A n c] w fun e w' => e = .returned (.int .i64 r) ∧ ∃ q, w' = w.drewN q := by
  obtain ⟨AL, cL, A2, c2, A3, c3, k0, _, _, hl, _, _, _, hrow⟩ := h.open_
  clear h
  have HROW := hide hrow
  have HS := hide hs
  clear hrow hs
  obtain ⟨N, HN⟩ : ∃ N, Hid (L.length = N) := ⟨_, rfl⟩
  rw [HN.out] at k0 hl
  have HLIT := hl
  go_enter Try.func35, Try.ntmps35
  go_wp2_with fail
  go_loopw [5] (fun i wr => ∃ k : Nat, k ≤ N ∧ i = .int .i64 k ∧ Hid (∀ j, j < k → L[j]? ≠ some x) ∧ ∃ q, wr = w.drewN q) (fun i _ => N - (intOf i).toNat)
  case atStart => exact ⟨0, Nat.zero_le _, rfl, (fun j hj => by omega), 0, rfl⟩
  case round =>
    obtain ⟨k, hk, rfl, HX, q, rfl⟩ := hrel
    by_cases hlt : k < N
    · obtain ⟨y, hy⟩ : ∃ y, L[k]? = some y := ⟨_, List.getElem?_eq_getElem (by rw [HN.out]; exact hlt)⟩
      obtain ⟨b, A1, c1, rfl, q1, q2, q3⟩ := HROW.out k y hy
      have HY := hide hy
      have CE := hide (ref0_EqBytes A1 A y.length c1 n c y x (w.drewN q) (q2.drewN q) (by omega) (HS.out.drewN q) hn)
      clear hy q2 q3
      generalize y.length = m at q1 CE
      obtain ⟨p, HP⟩ : ∃ p, Hid ((y == x) = p) := ⟨_, rfl⟩
      rw [HP.out] at CE
      go_wp2_with fail
      refine CE.out.mono ?_
      rintro e w' ⟨rfl, q', rfl⟩
      cases p with
      | true =>
        have HE : Hid (fnd L x = some k) := by have h1 := HP.out; rw [beq_iff_eq] at h1; subst h1; exact fnd_of_at HY.out HX.out
        have HR : Hid (((k : Int) + 1) = r) := by rw [Hid, ← hr.out, HE.out]; rfl
        clear hr
        go_wp2_with fail
        go_ret
        exact ⟨ret_int HR.out, q + q', rfl⟩
      | false =>
        have HX2 : Hid (∀ j, j < k + 1 → L[j]? ≠ some x) := fnd_drop_step HX.out (by rw [HY.out]; intro e; injection e with e; subst e; have h1 := HP.out; simp at h1)
        go_wp2_with fail
        go_roundw
        case rel => exact ⟨k + 1, by omega, by go_num, HX2, q + q', rfl⟩
        case measure => simp [intOf]; omega
    · obtain rfl : k = N := by omega
      have HE : Hid (0 = r) := by rw [Hid, ← hr.out, fnd_none_of (by rw [HN.out]; exact HX.out)]; rfl
      clear hr
      go_wp2_with fail
      go_ret
      exact ⟨ret_int HE.out, q, rfl⟩

theorem infoRef : (Try.prog.info? 3).map (fun i => (i.zero, i.size, i.bytes)) = some (some (.int .i64 0), 1, 8) := by kernel_rfl
theorem mem_pairs {ps : List (Int × Int)} {p : Int × Int} {k : Nat} (h : ps[k]? = some p) : p ∈ ps := mem_of_at h
set_option maxRecDepth 100000 in
set_option maxHeartbeats 1000000 in
theorem ref5_Signed {G : Nat → Prop} {g : Nat} {L : List (List UInt8)} {ps : List (Int × Int)} (who d : Int) (w : World) (h : RfI G w g L ps) {r : Bool} (hr : Hid (decide ((who, d) ∈ ps) = r)) :
    Calls Try.prog 38 #[.pointer (some ⟨g, 0, none⟩), .int .i64 who, .int .i64 d] w fun e w' => e = .returned (.bool r) ∧ w = w' := by
  obtain ⟨AL, cL, A2, c2, A3, c3, _, k1, k2, _, hl, s2, s3, _⟩ := h.open_
  clear h
  obtain ⟨N, HN⟩ : ∃ N, Hid (ps.length = N) := ⟨_, rfl⟩
  rw [HN.out] at k1 k2 hl s2 s3
  go_enter Try.func38, Try.ntmps38
  go_wp2_with fail
  go_loop [7] (fun i => ∃ k : Nat, k ≤ N ∧ i = .int .i64 k ∧ Hid (∀ j, j < k → ps[j]? ≠ some (who, d))) (fun i => N - (intOf i).toNat)
  case atStart => exact ⟨0, Nat.zero_le _, rfl, (fun j hj => by omega)⟩
  case round =>
    obtain ⟨k, hk, rfl, HX⟩ := hrel
    by_cases hlt : k < N
    · obtain ⟨⟨a, b⟩, hy⟩ : ∃ y, ps[k]? = some y := ⟨_, List.getElem?_eq_getElem (by rw [HN.out]; exact hlt)⟩
      obtain ⟨b2, o2, u2, rfl, HU2, q2, _⟩ := s2.int hlt
      obtain ⟨b3, o3, u3, rfl, HU3, q3, _⟩ := s3.int hlt
      obtain rfl : u2 = a := by have := HU2.out; rw [List.getElem?_map, hy] at this; simpa using this.symm
      obtain rfl : u3 = b := by have := HU3.out; rw [List.getElem?_map, hy] at this; simpa using this.symm
      have HY := hide hy
      clear hy s2 s3 HU2 HU3
      by_cases h1 : u2 = who
      · have e1 : (u2 == who) = true := by simpa using h1
        by_cases h2 : u3 = d
        · have e2 : (u3 == d) = true := by simpa using h2
          have HR : Hid (true = r) := by rw [Hid, ← hr.out]; symm; rw [decide_eq_true_eq, ← h1, ← h2]; exact mem_pairs HY.out
          clear h1 h2 hr
          go_wp2_with fail
          go_ret
          exact ⟨ret_bool HR.out, rfl⟩
        · have e2 : (u3 == d) = false := by simpa using h2
          have HX2 : Hid (∀ j, j < k + 1 → ps[j]? ≠ some (who, d)) := fun j hj => by
            rcases Nat.lt_or_ge j k with h' | h'
            · exact HX.out j h'
            · obtain rfl : j = k := by omega
              rw [HY.out]; intro e; injection e with e; injection e with _ e; exact h2 e
          clear h1 h2
          go_wp2_with fail
          go_round
          case rel => exact ⟨k + 1, by omega, by go_num, HX2⟩
          case measure => simp [intOf]; omega
      · have e1 : (u2 == who) = false := by simpa using h1
        have HX2 : Hid (∀ j, j < k + 1 → ps[j]? ≠ some (who, d)) := fun j hj => by
            rcases Nat.lt_or_ge j k with h' | h'
            · exact HX.out j h'
            · obtain rfl : j = k := by omega
              rw [HY.out]; intro e; injection e with e; injection e with e _; exact h1 e
        clear h1
        go_wp2_with fail
        go_round
        case rel => exact ⟨k + 1, by omega, by go_num, HX2⟩
        case measure => simp [intOf]; omega
    · obtain rfl : k = N := by omega
      have HE : Hid (false = r) := by
        rw [Hid, ← hr.out]; symm; rw [decide_eq_false_iff_not]
        intro hm
        obtain ⟨j, hj⟩ := List.mem_iff_getElem?.1 hm
        exact HX.out j (by have := lt_of_at hj; rw [HN.out] at this; exact this) hj
      clear hr
      go_wp2_with fail
      go_ret
      exact ⟨ret_bool HE.out, rfl⟩
end Go.Proofs.Ytflamhndmggiaaa
