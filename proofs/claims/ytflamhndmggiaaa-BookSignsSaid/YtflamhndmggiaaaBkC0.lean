
/-
  Contracts of package book: Digest.
-/
import Derived.Test.YtflamhndmggiaaaBkB
import Derived.Deep.RegionHeld3
import Derived.Deep.RegionLaw
import Derived.Deep.DeepCutAuto
import Derived.StillTailTactics
namespace Go.Proofs.Ytflamhndmggiaaa
open Go.RowKit

theorem infoRow : (Try.prog.info? 28).map (fun i => (i.zero, i.size, i.bytes)) = some (some (.slice none 0 0), 1, 24) := by kernel_rfl

/-- A book with one thing more, put together. -/
theorem bk_grow {G F E : Nat → Prop} {g m1 m2 N n c1 c6 c8 : Nat} {A1 A6 A8 : Option Addr} {L : List (List UInt8)} {sg : Int × Int → Bool} {x : List UInt8} {els : List Value} {w w6 wa w8 w10 : World}
    (HG : (∀ b, G b → b < w.heap.size) ∧ G g ∧ (∀ y ∈ L, y.length ≤ 1048576) ∧ (∀ b, F b → G b) ∧ (∀ b, E b → G b) ∧ (∀ b, F b → ¬ E b) ∧ F g ∧ F m1 ∧ F m2 ∧ m1 ≠ m2)
    (hN : L.length = N) (hn : x.length = n) (hx : n ≤ 1048576) (hm2 : Mp w m2 pairV (sgF sg)) (hm1 : Mp w m1 Value.string (numF L)) (hrow : ∀ b, (Value.slice A1 N c1).ownBlock = some b → F b) (hrw : RwF F E w 28 (.slice A1 N c1) L)
    (hel : ∀ (i : Nat) (y : List UInt8), L[i]? = some y → ∃ u, els[i]? = some u ∧ ElF E w u y) (hells : els.length = N)
    (c6' : Chg (fun _ => False) w w6) (own6 : w6.ownsRow w.heap.size 5 1 (.slice A6 n c6) n (bytes8 x)) (ca : Chg (fun _ => False) w6 wa) (hza : w6.heap.size < wa.heap.size)
    (hg8 : wa.grownBy w8 (Value.slice A1 N c1).ownBlock) (own8 : w8.ownsRow 0 28 1 (.slice A8 (N + 1) c8) (N + 1) (els ++ [.slice A6 n c6])) (hat : (Value.slice A8 (N + 1) c8).ownBlock = (Value.slice A1 N c1).ownBlock ∨ (Value.slice A8 (N + 1) c8).ownBlock = some wa.heap.size)
    (hkb : Blk w g 103 #[.map (some m1), .slice A1 N c1, .map (some m2)])
    (kb8 : Blk w8 g 103 #[.map (some m1), .slice A1 N c1, .map (some m2)])
    (h10 : (w8.setCell ⟨g, 1, none⟩ (.slice A8 (N + 1) c8)).grownBy w10 (some m1)) (hm10 : Mp w10 m1 Value.string (numF (L ++ [x]))) : BkN G g (L ++ [x]) sg w w10 := by
  obtain ⟨hlt, hin, hsm, h1, h2, h3, h4, h5, h6, h7⟩ := HG
  have z1 := c6'.size
  have z2 := hg8.size
  have z3 : (w8.setCell ⟨g, 1, none⟩ (.slice A8 (N + 1) c8)).heap.size = w8.heap.size := by simp [World.setCell]
  have z4 := h10.size
  have hgl := hlt g hin
  have hr1 : (Value.slice A1 N c1).ownBlock ≠ some m1 := hrw.not_map hm1
  have hr2 : (Value.slice A1 N c1).ownBlock ≠ some m2 := hrw.not_map hm2
  have l1 := hm1.lt
  have l2 := hm2.lt
  -- what stays
  have stay : ∀ b, b < w.heap.size → b ≠ g → b ≠ m1 → (Value.slice A1 N c1).ownBlock ≠ some b → w10.heap[b]? = w.heap[b]? := fun b hb n1 n2 n3 => by
    rw [h10.block b (by omega) (by intro e; injection e with e; exact n2 e), Below.heap_setCell w8 _ _ b n1, hg8.block b (by omega) (fun e => n3 e.symm), ca.at_ (by omega) id, c6'.at_ hb id]
  have new8 : ∀ b, w.heap.size ≤ b → b < w8.heap.size → w10.heap[b]? = w8.heap[b]? := fun b hb hb8 => by
    rw [h10.block b (by omega) (by intro e; injection e with e; omega), Below.heap_setCell w8 _ _ b (by show b ≠ g; omega)]
  have new6 : ∀ b, w.heap.size ≤ b → b < w6.heap.size → w10.heap[b]? = w6.heap[b]? := fun b hb hb6 => by
    rw [new8 b hb (by omega), hg8.block b (by omega) (fun e => by have := hlt b (h1 b (hrow b e.symm)); omega), ca.at_ hb6 id]
  have r8 : ∀ b, (Value.slice A8 (N + 1) c8).ownBlock = some b → (F b ∨ b = wa.heap.size) ∧ b ≠ g ∧ b ≠ m1 ∧ b ≠ m2 ∧ b < w8.heap.size := fun b hb => by
    have hl8 := own_in own8 hb
    have ng : b ≠ g := by
      rintro rfl
      exact own_blk_ne own8 kb8 (by decide) hb
    rcases hat with h | h
    · rw [hb] at h
      exact ⟨.inl (hrow b h.symm), ng, fun e => hr1 (by rw [← h, e]), fun e => hr2 (by rw [← h, e]), hl8⟩
    · rw [hb] at h
      injection h with h
      exact ⟨.inr h, ng, by omega, by omega, hl8⟩
  have row10 : ∀ b, (Value.slice A8 (N + 1) c8).ownBlock = some b → w10.heap[b]? = w8.heap[b]? := fun b hb => by
    obtain ⟨_, n1, n2, _, hl8⟩ := r8 b hb
    rw [h10.block b (by omega) (by intro e; injection e with e; exact n2 e), Below.heap_setCell w8 _ _ b n1]
  refine ⟨fun b => G b ∨ (w.heap.size ≤ b ∧ b < w10.heap.size), ⟨?_, .inl hin, ?_, fun b => F b ∨ (Value.slice A8 (N + 1) c8).ownBlock = some b, fun b => E b ∨ (w.heap.size ≤ b ∧ b < w6.heap.size), m1, m2, .slice A8 (N + 1) c8, ?_, ?_, ?_, .inl h4, .inl h5, .inl h6, h7, ?_, hm10, ?_, ?_⟩, ?_, ?_⟩
  · rintro b (hb | hb)
    · have := hlt b hb; omega
    · exact hb.2
  · intro y hy
    rcases List.mem_append.1 hy with hy | hy
    · exact hsm y hy
    · simp at hy; subst hy; omega
  · rintro b (hb | hb)
    · exact .inl (h1 b hb)
    · obtain ⟨h, _, _, _, hl8⟩ := r8 b hb
      rcases h with h | h
      · exact .inl (h1 b h)
      · exact .inr ⟨by omega, by omega⟩
  · rintro b (hb | hb)
    · exact .inl (h2 b hb)
    · exact .inr ⟨hb.1, by omega⟩
  · rintro b (hb | hb) (he | he)
    · exact h3 b hb he
    · have := hlt b (h1 b hb); omega
    · obtain ⟨h, _⟩ := r8 b hb
      rcases h with h | h
      · exact h3 b h he
      · have := hlt b (h2 b he); omega
    · obtain ⟨h, _⟩ := r8 b hb
      rcases h with h | h
      · have := hlt b (h1 b h); omega
      · omega
  · exact (kb8.set_ 1 (.slice A8 (N + 1) c8)).at_block (h10.block g (by rw [z3]; exact kb8.lt) (by intro e; injection e with e; exact hm1.not_blk hkb e))
  · exact hm2.at_ (stay m2 l2 (fun e => hm2.not_blk hkb e.symm) (Ne.symm h7) hr2)
  · refine ⟨A8, c8, els ++ [.slice A6 n c6], by simp [hN], by rw [List.length_append, hN]; exact own_at own8 row10, fun b hb => .inr hb, fun i y hy => ?_⟩
    rcases Nat.lt_or_ge i L.length with hi | hi
    · rw [List.getElem?_append_left hi] at hy
      obtain ⟨u, hu, he⟩ := hel i y hy
      refine ⟨u, by rw [List.getElem?_append_left (by omega)]; exact hu, he.keep (by omega) (fun b hb hE => stay b hb ?_ ?_ ?_) (fun b hb => .inl hb)⟩
      · rintro rfl; exact h3 _ h4 hE
      · rintro rfl; exact h3 _ h5 hE
      · intro e; exact h3 _ (hrow b e) hE
    · have hi' : i = L.length := by have := lt_of_at hy; simp at this; omega
      subst hi'
      have hy' : y = x := by rw [List.getElem?_append_right (Nat.le_refl _)] at hy; simpa using hy.symm
      subst hy'
      refine ⟨.slice A6 n c6, by rw [List.getElem?_append_right (by omega)]; simp [hells, hN], ?_⟩
      exact (ElF.of_own own6).keep (by omega) (fun b hb hE => new6 b hE.1 hE.2) (fun b hb => .inr hb)
  · rintro b (hb | hb)
    · exact .inl hb
    · exact .inr hb.1
  · refine ⟨?_, ?_, ?_, by omega, fun b hb hn => stay b hb ?_ ?_ ?_⟩
    · exact h10.os.trans (hg8.os.trans (ca.os.trans c6'.os))
    · exact h10.tape.trans (hg8.tape.trans (ca.tape.trans c6'.tape))
    · exact h10.output.trans (hg8.output.trans (ca.output.trans c6'.output))
    · rintro rfl; exact hn hin
    · rintro rfl; exact hn (h1 _ h5)
    · intro e; exact hn (h1 b (hrow b e))
end Go.Proofs.Ytflamhndmggiaaa
