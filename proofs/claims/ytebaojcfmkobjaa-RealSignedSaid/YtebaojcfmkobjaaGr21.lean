/-
  Texts joined: words and contracts that later texts use; lemmas alone, no conditions of a statement.
-/
import Derived.Test.YtebaojcfmkobjaaGr20
import Derived.Deep.RegionLaw
import Derived.Deep.DeepCutAuto
import Derived.Lib.SlBytesConst
import Derived.Test.YtebaojcfmkobjaaGr03
set_option linter.unusedVariables false
set_option linter.unusedSimpArgs false
/-
  The reference's book: its memory, contracts of Find, Signed, Sign.
-/
namespace Go.Proofs.Ytebaojcfmkobjaa
open Go.RowKit

/-- The reference's book's memory: blocks G in all; things L; who (aa) signed what (bb). -/
structure RfG (G : Nat → Prop) (w : World) (g : Nat) (L : List (List UInt8)) (aa bb : List Int) : Prop where
  mk ::
  lt : ∀ b, G b → b < w.heap.size
  in_ : G g
  sm : ∀ x ∈ L, x.length ≤ 1048576
  rest : ∃ (F E : Nat → Prop) (v : Value) (A2 A3 : Option Addr) (c2 c3 : Nat), (∀ b, F b → G b) ∧ (∀ b, E b → G b) ∧ (∀ b, F b → ¬ E b) ∧ F g ∧ Blk w g 33 #[v, .slice A2 aa.length c2, .slice A3 bb.length c3] ∧ RwF F E w 60 v L ∧
    w.ownsRow 0 3 1 (.slice A2 aa.length c2) aa.length (ints aa) ∧ w.ownsRow 0 3 1 (.slice A3 bb.length c3) bb.length (ints bb) ∧
    (∀ b, (Value.slice A2 aa.length c2).ownBlock = some b → F b) ∧ (∀ b, (Value.slice A3 bb.length c3).ownBlock = some b → F b) ∧ (∀ b, (Value.slice A2 aa.length c2).ownBlock = some b → (Value.slice A3 bb.length c3).ownBlock ≠ some b)
def RfM (G : Nat → Prop) (g : Nat) (L : List (List UInt8)) (aa bb : List Int) (w w' : World) : Prop := ∃ G', RfG G' w' g L aa bb ∧ (∀ b, G' b → G b ∨ w.heap.size ≤ b) ∧ Chg G w w'
/-- .. pairs ps: who signed what. -/
def RfI (G : Nat → Prop) (w : World) (g : Nat) (L : List (List UInt8)) (ps : List (Int × Int)) : Prop := RfG G w g L (ps.map (·.1)) (ps.map (·.2))
def RfN (G : Nat → Prop) (g : Nat) (L : List (List UInt8)) (ps : List (Int × Int)) (w w' : World) : Prop := ∃ G', RfI G' w' g L ps ∧ (∀ b, G' b → G b ∨ w.heap.size ≤ b) ∧ Chg G w w'
theorem RfI.keep {G H : Nat → Prop} {w w' : World} {g : Nat} {L : List (List UInt8)} {ps : List (Int × Int)} (h : RfI G w g L ps) (hc : Chg H w w') (ha : ∀ b, G b → ¬ H b) : RfI G w' g L ps := by
  obtain ⟨hlt, hin, hsm, F, E, v, A2, A3, c2, c3, h1, h2, h3, h4, h5, h6, h7, h8, h9, h10, h11⟩ := h
  have hk : ∀ b, G b → w'.heap[b]? = w.heap[b]? := fun b hb => hc.at_ (hlt b hb) (ha b hb)
  exact ⟨fun b hb => Nat.lt_of_lt_of_le (hlt b hb) hc.size, hin, hsm, F, E, v, A2, A3, c2, c3, h1, h2, h3, h4, h5.at_block (hk _ (h1 _ h4)),
    h6.keep hc.size (fun b _ hb => hk b (h1 b (h6.inF hb))) (fun b _ hb => hk b (h2 b hb)) (fun _ => id) (fun _ => id), own_at h7 (fun b hb => hk b (h1 b (h9 b hb))), own_at h8 (fun b hb => hk b (h1 b (h10 b hb))), h9, h10, h11⟩
theorem RfI.below {G : Nat → Prop} {w w' : World} {g : Nat} {L : List (List UInt8)} {ps : List (Int × Int)} (h : RfI G w g L ps) (hb : Below w.heap.size w w') : RfI G w' g L ps := h.keep (Chg.of_below (F := fun _ => False) hb) (fun _ _ => id)
theorem RfI.drewN {G : Nat → Prop} {w : World} {g : Nat} {L : List (List UInt8)} {ps : List (Int × Int)} (h : RfI G w g L ps) (n : Nat) : RfI G (w.drewN n) g L ps := h.keep ((Chg.refl (fun _ => False) w).drewN n) (fun _ _ => id)
/-- An empty one, just made. -/
theorem RfI.made (w : World) : RfI (fun b => b = w.heap.size) (w.alloc (.cells #[.slice none 0 0, .slice none 0 0, .slice none 0 0] 33)) w.heap.size [] [] :=
  ⟨fun b hb => by subst hb; simp, rfl, by simp, fun b => b = w.heap.size, fun _ => False, .slice none 0 0, none, none, 0, 0, fun _ => id, fun _ hf => hf.elim, fun _ _ => id, rfl, Blk.new _ _ _, RwF.nil_, World.ownsRow_nil _ _ _ _, World.ownsRow_nil _ _ _ _, (fun b hb => by cases hb), (fun b hb => by cases hb), (fun b hb => by cases hb)⟩
theorem RfI.open_ {G : Nat → Prop} {w : World} {g : Nat} {L : List (List UInt8)} {ps : List (Int × Int)} (h : RfI G w g L ps) :
    ∃ A c A2 c2 A3 c3, w.cell? ⟨g, 0, none⟩ = some (.slice A L.length c) ∧ w.cell? ⟨g, 1, none⟩ = some (.slice A2 ps.length c2) ∧ w.cell? ⟨g, 2, none⟩ = some (.slice A3 ps.length c3) ∧ L.length ≤ 9223372036854775807 ∧ ps.length ≤ 9223372036854775807 ∧
      Sl w 1 A2 ps.length (ints (ps.map (·.1))) ∧ Sl w 1 A3 ps.length (ints (ps.map (·.2))) ∧
      ∀ (i : Nat) (x : List UInt8), L[i]? = some x → ∃ b A1 c1, A = some ⟨b, 0, none⟩ ∧ w.cell? ⟨b, i, none⟩ = some (.slice A1 x.length c1) ∧ Sl w 1 A1 x.length (bytes8 x) ∧ x.length ≤ 1048576 := by
  obtain ⟨_, _, hsm, F, E, v, A2, A3, c2, c3, _, _, _, _, hb, hr, o2, o3, _⟩ := h
  rw [List.length_map] at hb o2
  rw [List.length_map] at hb o3
  obtain ⟨A, c, rfl, hl⟩ := hr.val
  obtain ⟨_, _, e, q1, q2⟩ := own_slice_cap o2
  unfold maxLen at q2
  refine ⟨A, c, A2, c2, A3, c3, hb.at_ rfl, hb.at_ rfl, hb.at_ rfl, hl, by omega, Sl.of_own o2, Sl.of_own o3, fun i x hx => ?_⟩
  obtain ⟨b, c', A1, c1, e, _, k1, k2, k3, k4⟩ := hr.at_ hx
  injection e with e
  exact ⟨b, A1, c1, e, k1, k4, hsm x (mem_of_at hx)⟩

theorem fnd_drop_step {L : List (List UInt8)} {x : List UInt8} {k : Nat} (h : ∀ j, j < k → L[j]? ≠ some x) (hk : L[k]? ≠ some x) : ∀ j, j < k + 1 → L[j]? ≠ some x := fun j hj => by
  rcases Nat.lt_or_ge j k with h' | h'
  · exact h j h'
  · obtain rfl : j = k := by omega
    exact hk
theorem fnd_none_of {L : List (List UInt8)} {x : List UInt8} (h : ∀ j, j < L.length → L[j]? ≠ some x) : fnd L x = none := by
  cases hf : fnd L x with
  | none => rfl
  | some i => exact absurd (fnd_some hf).1 (h i (fnd_lt hf))

set_option maxRecDepth 100000 in
set_option maxHeartbeats 1000000 in
theorem ref5_Find {G : Nat → Prop} {g : Nat} {L : List (List UInt8)} {ps : List (Int × Int)} {A : Option Addr} {n c : Nat} {x : List UInt8} (w : World) (h : RfI G w g L ps) (hs : Sl w 1 A n (bytes8 x)) (hn : n ≤ 9223372036854775807) {r : Int} (hr : Hid (fndN (fnd L x) = r)) :
    Calls Try.prog 45 #[.pointer (some ⟨g, 0, none⟩), .slice A n c] w fun e w' => e = .returned (.int .i64 r) ∧ ∃ q, w' = w.drewN q := by
  obtain ⟨AL, cL, A2, c2, A3, c3, k0, _, _, hl, _, _, _, hrow⟩ := h.open_
  clear h
  have HROW := hide hrow
  have HS := hide hs
  clear hrow hs
  obtain ⟨N, HN⟩ : ∃ N, Hid (L.length = N) := ⟨_, rfl⟩
  rw [HN.out] at k0 hl
  have HLIT := hl
  go_enter Try.func45, Try.ntmps45
  go_wp2_with fail
  go_loopw [5] (fun i wr => ∃ k : Nat, k ≤ N ∧ i = .int .i64 k ∧ Hid (∀ j, j < k → L[j]? ≠ some x) ∧ ∃ q, wr = w.drewN q) (fun i _ => N - (intOf i).toNat)
  case atStart => exact ⟨0, Nat.zero_le _, rfl, (fun j hj => by omega), 0, rfl⟩
  case round =>
    obtain ⟨k, hk, rfl, HX, q, rfl⟩ := hrel
    by_cases hlt : k < N
    · obtain ⟨y, hy⟩ : ∃ y, L[k]? = some y := ⟨_, List.getElem?_eq_getElem (by rw [HN.out]; exact hlt)⟩
      obtain ⟨b, A1, c1, rfl, q1, q2, q3⟩ := HROW.out k y hy
      have HY := hide hy
      have CE := hide (ref0_EqBytes A1 A y.length c1 n c y x (w.drewN q) (q2.drewN q) (by omega) (HS.out.drewN q) hn)
      clear hy q2 q3
      generalize y.length = m at q1 CE
      obtain ⟨p, HP⟩ : ∃ p, Hid ((y == x) = p) := ⟨_, rfl⟩
      rw [HP.out] at CE
      go_wp2_with fail
      refine CE.out.mono ?_
      rintro e w' ⟨rfl, q', rfl⟩
      cases p with
      | true =>
        have HE : Hid (fnd L x = some k) := by have h1 := HP.out; rw [beq_iff_eq] at h1; subst h1; exact fnd_of_at HY.out HX.out
        have HR : Hid (((k : Int) + 1) = r) := by rw [Hid, ← hr.out, HE.out]; rfl
        clear hr
        go_wp2_with fail
        go_ret
        exact ⟨ret_int HR.out, q + q', rfl⟩
      | false =>
        have HX2 : Hid (∀ j, j < k + 1 → L[j]? ≠ some x) := fnd_drop_step HX.out (by rw [HY.out]; intro e; injection e with e; subst e; have h1 := HP.out; simp at h1)
        go_wp2_with fail
        go_roundw
        case rel => exact ⟨k + 1, by omega, by go_num, HX2, q + q', rfl⟩
        case measure => simp [intOf]; omega
    · obtain rfl : k = N := by omega
      have HE : Hid (0 = r) := by rw [Hid, ← hr.out, fnd_none_of (by rw [HN.out]; exact HX.out)]; rfl
      clear hr
      go_wp2_with fail
      go_ret
      exact ⟨ret_int HE.out, q, rfl⟩

end Go.Proofs.Ytebaojcfmkobjaa
/-
  The reference's book: contracts of Sign and Digest.
-/
namespace Go.Proofs.Ytebaojcfmkobjaa
open Go.RowKit

theorem RfM.pair {G : Nat → Prop} {g : Nat} {L : List (List UInt8)} {ps : List (Int × Int)} {a b : Int} {w w1 w2 : World} {G1 : Nat → Prop} (h1 : ∀ b, G1 b → G b ∨ w.heap.size ≤ b) (hc : Chg G w w1) (h2 : RfM G1 g L (ps.map (·.1) ++ [a]) (ps.map (·.2) ++ [b]) w1 w2) : RfN G g L (ps ++ [(a, b)]) w w2 := by
  obtain ⟨G2, h, q, c⟩ := h2
  have hs := hc.size
  refine ⟨G2, by unfold RfI; simpa using h, fun x hx => ?_, hc.trans c h1⟩
  rcases q x hx with hx | hx
  · exact h1 x hx
  · exact .inr (by omega)
/-- One thing more. -/
theorem RfG.pushL {G : Nat → Prop} {w : World} {g : Nat} {L : List (List UInt8)} {aa bb : List Int} (h : RfG G w g L aa bb) :
    ∃ A1 c1 els s2 s3, Blk w g 33 #[.slice A1 L.length c1, s2, s3] ∧ w.ownsRow 0 60 1 (.slice A1 L.length c1) L.length els ∧ L.length ≤ 9223372036854775807 ∧
      ∀ (w6 wa w8 : World) (A6 A8 : Option Addr) (n c6 c8 : Nat) (x : List UInt8), x.length = n → n ≤ 1048576 → Chg (fun _ => False) w w6 → w6.ownsRow w.heap.size 5 1 (.slice A6 n c6) n (bytes8 x) → Chg (fun _ => False) w6 wa → w6.heap.size < wa.heap.size →
        wa.grownBy w8 (Value.slice A1 L.length c1).ownBlock → w8.ownsRow 0 60 1 (.slice A8 (L.length + 1) c8) (L.length + 1) (els ++ [.slice A6 n c6]) → ((Value.slice A8 (L.length + 1) c8).ownBlock = (Value.slice A1 L.length c1).ownBlock ∨ (Value.slice A8 (L.length + 1) c8).ownBlock = some wa.heap.size) →
        Blk w8 g 33 #[.slice A1 L.length c1, s2, s3] → RfM G g (L ++ [x]) aa bb w (w8.setCell ⟨g, 0, none⟩ (.slice A8 (L.length + 1) c8)) := by
  obtain ⟨hlt, hin, hsm, F, E, v, A2, A3, c2, c3, h1, h2, h3, h4, h5, h6, h7, h8, h9, h10, h11⟩ := h
  obtain ⟨A1, c1, els, rfl, hown, hrow, hel⟩ := id h6
  have hl := h6.val
  obtain ⟨_, _, e, hl⟩ := hl
  refine ⟨A1, c1, els, _, _, h5, hown, hl, fun w6 wa w8 A6 A8 n c6 c8 x hn hx c6' own6 ca hza hg8 own8 hat kb8 => ?_⟩
  have z1 := c6'.size
  have z2 := hg8.size
  have z3 : (w8.setCell ⟨g, 0, none⟩ (.slice A8 (L.length + 1) c8)).heap.size = w8.heap.size := by simp [World.setCell]
  have hgl := hlt g hin
  have stay : ∀ b, b < w.heap.size → b ≠ g → (Value.slice A1 L.length c1).ownBlock ≠ some b → (w8.setCell ⟨g, 0, none⟩ (.slice A8 (L.length + 1) c8)).heap[b]? = w.heap[b]? := fun b hb n1 n3 => by
    rw [Below.heap_setCell w8 _ _ b n1, hg8.block b (by omega) (fun e => n3 e.symm), ca.at_ (by omega) id, c6'.at_ hb id]
  have new6 : ∀ b, w.heap.size ≤ b → b < w6.heap.size → (w8.setCell ⟨g, 0, none⟩ (.slice A8 (L.length + 1) c8)).heap[b]? = w6.heap[b]? := fun b hb hb6 => by
    rw [Below.heap_setCell w8 _ _ b (by show b ≠ g; omega), hg8.block b (by omega) (fun e => by have := hlt b (h1 b (hrow b e.symm)); omega), ca.at_ hb6 id]
  have r8 : ∀ b, (Value.slice A8 (L.length + 1) c8).ownBlock = some b → ((Value.slice A1 L.length c1).ownBlock = some b ∨ b = wa.heap.size) ∧ b ≠ g ∧ b < w8.heap.size := fun b hb => by
    have hl8 := own_in own8 hb
    have ng : b ≠ g := by
      rintro rfl
      exact own_blk_ne own8 kb8 (by decide) hb
    rcases hat with h | h
    · rw [hb] at h
      exact ⟨.inl h.symm, ng, hl8⟩
    · rw [hb] at h
      injection h with h
      exact ⟨.inr h, ng, hl8⟩
  have apart : ∀ {X : Option Addr} {k c : Nat} {xs : List Value}, w.ownsRow 0 3 1 (.slice X k c) k xs → ∀ b, (Value.slice X k c).ownBlock = some b → (Value.slice A1 L.length c1).ownBlock ≠ some b := fun ho b hb e => by
    obtain ⟨cur, hc⟩ := h6.cells e
    rcases ho.2 with ⟨e0, _⟩ | ⟨g', cap, cur', e0, _, hh, _⟩
    · injection e0 with e1; rw [e1] at hb; cases hb
    · injection e0 with e1; rw [e1] at hb; injection hb with hb; subst hb
      rw [hc] at hh; injection hh with hh; injection hh with _ ht; exact absurd ht (by decide)
  have keep2 : ∀ {X : Option Addr} {k c : Nat} {xs : List Value}, w.ownsRow 0 3 1 (.slice X k c) k xs → (w8.setCell ⟨g, 0, none⟩ (.slice A8 (L.length + 1) c8)).ownsRow 0 3 1 (.slice X k c) k xs := fun ho =>
    own_at ho (fun b hb => stay b (own_in ho hb) (fun e => by subst e; exact own_blk_ne ho h5 (by decide) hb) (apart ho b hb))
  refine ⟨fun b => G b ∨ (w.heap.size ≤ b ∧ b < w8.heap.size), ⟨?_, .inl hin, ?_, fun b => F b ∨ (Value.slice A8 (L.length + 1) c8).ownBlock = some b, fun b => E b ∨ (w.heap.size ≤ b ∧ b < w6.heap.size), .slice A8 (L.length + 1) c8, A2, A3, c2, c3, ?_, ?_, ?_, .inl h4, kb8.set_ 0 (.slice A8 (L.length + 1) c8), ?_, keep2 h7, keep2 h8, fun b hb => .inl (h9 b hb), fun b hb => .inl (h10 b hb), h11⟩, ?_, ?_⟩
  · rintro b (hb | hb)
    · have := hlt b hb; omega
    · omega
  · intro y hy
    rcases List.mem_append.1 hy with hy | hy
    · exact hsm y hy
    · simp at hy; subst hy; omega
  · rintro b (hb | hb)
    · exact .inl (h1 b hb)
    · obtain ⟨h, _, hl8⟩ := r8 b hb
      rcases h with h | h
      · exact .inl (h1 b (hrow b h))
      · exact .inr ⟨by omega, by omega⟩
  · rintro b (hb | hb)
    · exact .inl (h2 b hb)
    · exact .inr ⟨hb.1, by omega⟩
  · rintro b (hb | hb) (he | he)
    · exact h3 b hb he
    · have := hlt b (h1 b hb); omega
    · obtain ⟨h, _⟩ := r8 b hb
      rcases h with h | h
      · exact h3 b (hrow b h) he
      · have := hlt b (h2 b he); omega
    · obtain ⟨h, _⟩ := r8 b hb
      rcases h with h | h
      · have := hlt b (h1 b (hrow b h)); omega
      · omega
  · refine ⟨A8, c8, els ++ [.slice A6 n c6], by simp, by rw [List.length_append]; exact own_at own8 (fun b hb => Below.heap_setCell w8 _ _ b (r8 b hb).2.1), fun b hb => .inr hb, fun i y hy => ?_⟩
    have hells : els.length = L.length := by have := hown.1; omega
    rcases Nat.lt_or_ge i L.length with hi | hi
    · rw [List.getElem?_append_left hi] at hy
      obtain ⟨u, hu, he⟩ := hel i y hy
      refine ⟨u, by rw [List.getElem?_append_left (by omega)]; exact hu, he.keep (by omega) (fun b hb hE => stay b hb ?_ ?_) (fun b hb => .inl hb)⟩
      · rintro rfl; exact h3 _ h4 hE
      · intro e; exact h3 _ (hrow b e) hE
    · have hi' : i = L.length := by have := lt_of_at hy; simp at this; omega
      subst hi'
      have hy' : y = x := by rw [List.getElem?_append_right (Nat.le_refl _)] at hy; simpa using hy.symm
      subst hy'
      refine ⟨.slice A6 n c6, by rw [List.getElem?_append_right (by omega)]; simp [hells], ?_⟩
      exact (ElF.of_own own6).keep (by omega) (fun b hb hE => new6 b hE.1 hE.2) (fun b hb => .inr hb)
  · rintro b (hb | hb)
    · exact .inl hb
    · exact .inr hb.1
  · refine ⟨?_, ?_, ?_, by omega, fun b hb hn => stay b hb ?_ ?_⟩
    · exact hg8.os.trans (ca.os.trans c6'.os)
    · exact hg8.tape.trans (ca.tape.trans c6'.tape)
    · exact hg8.output.trans (ca.output.trans c6'.output)
    · rintro rfl; exact hn hin
    · intro e; exact hn (h1 b (hrow b e))
end Go.Proofs.Ytebaojcfmkobjaa
/-
  The reference's book: contract of Digest.
-/
namespace Go.Proofs.Ytebaojcfmkobjaa
open Go.RowKit

set_option maxRecDepth 100000 in
set_option maxHeartbeats 2000000 in
theorem ref5_Digest {G : Nat → Prop} {g : Nat} {L : List (List UInt8)} {ps : List (Int × Int)} {A : Option Addr} {n c : Nat} {x : List UInt8} (w : World) (h : RfI G w g L ps) (hs : Sl w 1 A n (bytes8 x)) (hn : Hid (n ≤ 1048576)) (hL : Hid (L.length ≤ 65535))
    {d : Int} (hd : Hid (digN L x = d)) {L' : List (List UInt8)} (hl : Hid (addL L x = L')) :
    Calls Try.prog 41 #[.pointer (some ⟨g, 0, none⟩), .slice A n c] w fun e w' => e = .returned (.int .i64 d) ∧ RfN G g L' ps w w' := by
  obtain ⟨i0, hi, hz0, hz1, hz2⟩ := info_parts infoRow
  obtain rfl := hd.out
  obtain rfl := hl.out
  have hlen := hs.blen
  have CF := hide (ref5_Find w h hs (c := c) (by have := hn.out; omega) (r := fndN (fnd L x)) rfl)
  unfold digN addL
  cases hf : fnd L x with
  | some i =>
    have HF : Hid (∀ q, RfN G g L ps w (w.drewN q)) := fun q => ⟨G, h.drewN q, fun b hb => .inl hb, (Chg.refl G w).drewN q⟩
    rw [hf] at CF
    have hne : (((i : Int) + 1) == 0) = false := by simp; omega
    simp only [fndN] at CF
    clear h hs hd hl hf hn hL
    go_enter Try.func41, Try.ntmps41
    go_wp2_with fail
    refine CF.out.mono ?_
    rintro e w' ⟨rfl, q, rfl⟩
    go_wp2_with fail
    go_ret
    exact ⟨rfl, HF.out q⟩
  | none =>
    rw [hf] at CF
    simp only [fndN] at CF
    have HS := hide hs
    have HH := hide h
    clear hs hd hl h
    obtain ⟨N, HN⟩ : ∃ N, Hid (L.length = N) := ⟨_, rfl⟩
    rw [HN.out] at hL ⊢
    have hNm : N ≤ 9223372036854775807 := by have := hL.out; omega
    have hNd : decide ((N : Int) < 65536) = true := by have := hL.out; simp; omega
    simp only [Option.isSome_none, Bool.false_eq_true, if_false]
    have HLEN := hide hlen
    clear hf hlen
    go_enter Try.func41, Try.ntmps41
    go_wp2_with fail
    refine CF.out.mono ?_
    rintro e w' ⟨rfl, q, rfl⟩
    have HH1 := hide (HH.out.drewN q)
    have HS1 := hide (HS.out.drewN q)
    have HC1 := hide ((Chg.refl G w).drewN q)
    have HZ1 := hide (show w.heap.size = (w.drewN q).heap.size from rfl)
    clear HH HS CF
    generalize w.drewN q = w1 at HH1 HS1 HC1 HZ1 ⊢
    obtain ⟨A1, c1, els, s2, s3, hbk, hown, -, hpush⟩ := RfG.pushL HH1.out
    rw [HN.out] at hbk hown hpush
    have HB1 := hide hbk
    have HO1 := hide hown
    have HPU := hide hpush
    have k1 : w1.cell? ⟨g, 0, none⟩ = some (.slice A1 N c1) := hbk.at_ rfl
    have k1a : ∀ o, (w1.alloc o).cell? ⟨g, 0, none⟩ = some (.slice A1 N c1) := fun o => (hbk.alloc o).at_ rfl
    clear hbk hown hpush
    go_upto_region 3 with fail
    have hbd := Below.refl w1.heap.size w1
    go_region_law (first
      | (refine step_append_at _ (by rfl) (.tmp 23) (.tmp 26) _ (by rfl) 0 60 i0 (.slice none 0 0) 1 24 Try.underlying31 hi hz0 hz1 hz2 (by rfl) (by decide) (.slice A1 N c1) N els (by rfl) ((own_later HO1.out (by first | exact hbd | exact hbd.drew | exact hbd.drew.drew)).alloc _) ⟨w6.heap.size, 0, none⟩ 1 1 [.slice A6 n c6] (by rfl) (by rfl) (by first | exact news_one _ _ _ | (have := news_one w6.drew (.slice A6 n c6) 60; exact this)) (by intro u hu; simp at hu; subst hu; rfl) (by have := hL.out; unfold maxLen; omega) (by have := hL.out; omega) (by omega) ?_; intro v8 w8 hown8 hg8 hat8; obtain ⟨A8, c8, rfl⟩ := own_slice hown8; have kb8 := ((HB1.out.later hbd).alloc (.cells #[.slice A6 n c6] 60)).grown hg8 (Ne.symm (own_blk_ne HO1.out HB1.out (by decide))); have b28 : w8.cell? ⟨g, 0, none⟩ = some (.slice A1 N c1) := kb8.at_ rfl; have f8 := kb8.frozen 0)
      | (refine step_enter_ex (by rfl) 64 #[.slice A n c] (by go_simp) (ref0_CopyBytes _ _ _ _ _ (HS1.out.below (by first | exact hbd | exact hbd.drew | exact hbd.drew.drew)) (by have := hn.out; omega) (by have := hn.out; omega)) ?_; rintro v6 w6 ⟨own6, hb6⟩; obtain ⟨A6, c6, rfl⟩ := own_slice own6; have hbd := below_then (by first | exact hbd | exact hbd.drew | exact hbd.drew.drew) hb6; have k1b := (HB1.out.later hbd).at_ (i := 0) rfl; have k1c := ((HB1.out.later hbd).alloc (.cells #[.slice A6 n c6] 60)).at_ (i := 0) rfl)
      | fail)
    all_goals
      have HC6 : Hid (Chg (fun _ => False) w1 w6) := Chg.of_below (show Below w1.heap.size w1 w6 from ⟨hbd.os, hbd.tape, hbd.output, hbd.size, hbd.block⟩)
      have HO6 : Hid (w6.ownsRow w1.heap.size 5 1 (.slice A6 n c6) n (bytes8 x)) := own6
      have G8 := hide hg8
      have O8 := hide hown8
      have T8 := hide hat8
      have KB8 := hide kb8
      clear own6 hb6 hbd hg8 hown8 hat8 kb8 f8 b28 k1 k1a k1b k1c
      obtain ⟨wa, HWA, hca, hza⟩ : ∃ wa : World, (wa.grownBy w8 (Value.slice A1 N c1).ownBlock ∧ ((Value.slice A8 (N + 1) c8).ownBlock = (Value.slice A1 N c1).ownBlock ∨ (Value.slice A8 (N + 1) c8).ownBlock = some wa.heap.size)) ∧ Chg (fun _ => False) w6 wa ∧ w6.heap.size < wa.heap.size := ⟨_, ⟨G8.out, T8.out⟩, (by first | exact (Chg.refl _ _).alloc _ | exact ((Chg.refl _ _).drewN 1).alloc _), by simp⟩
      clear G8 T8
      have HPOST : Hid (RfN G g (L ++ [x]) ps w (w8.setCell ⟨g, 0, none⟩ (.slice A8 (N + 1) c8))) := by
        obtain ⟨G2, h, q, cc⟩ := HPU.out w6 wa w8 A6 A8 n c6 c8 x HLEN.out hn.out HC6.out HO6.out hca hza HWA.1 O8.out HWA.2 KB8.out
        exact ⟨G2, h, fun b hb => by rw [HZ1.out]; exact q b hb, HC1.out.trans cc (fun b hb => .inl hb)⟩
      have k9 : (w8.setCell ⟨g, 0, none⟩ (.slice A8 (N + 1) c8)).cell? ⟨g, 0, none⟩ = some (.slice A8 (N + 1) c8) := (KB8.out.set_ 0 _).at_ rfl
      generalize w8.setCell ⟨g, 0, none⟩ (.slice A8 (N + 1) c8) = w9 at HPOST k9 ⊢
      clear hca hza HWA HC6 HO6 O8 KB8
      go_wp2_with fail
      go_ret
      exact ⟨rfl, HPOST.out⟩
end Go.Proofs.Ytebaojcfmkobjaa
/-
  Small words of the laws of layer 5: num, Within, heavy; the argument's records.
-/
namespace Go.Proofs.Ytebaojcfmkobjaa
open Go.RowKit

/-- A bool of which R holds. -/
def Ans (R : Bool → Prop) (e : Ending) : Prop := ∃ r, e = .returned (.bool r) ∧ R r
/-- The k-th record of a list of four cells each: three numbers and bytes. -/
def Act5 (w : World) (b off k : Nat) (x y z : Int) (A3 : Option Addr) (n3 c3 : Nat) (bs : List UInt8) : Prop :=
  w.cell? ⟨b, off + k * 4, none⟩ = some (.int .i64 x) ∧ w.cell? ⟨b, off + k * 4 + 1, none⟩ = some (.int .i64 y) ∧ w.cell? ⟨b, off + k * 4 + 2, none⟩ = some (.int .i64 z) ∧ w.cell? ⟨b, off + k * 4 + 3, none⟩ = some (.slice A3 n3 c3) ∧
    (-9223372036854775808 ≤ x ∧ x ≤ 9223372036854775807) ∧ (-9223372036854775808 ≤ y ∧ y ≤ 9223372036854775807) ∧ (-9223372036854775808 ≤ z ∧ z ≤ 9223372036854775807) ∧ Sl w 1 A3 n3 (bytes8 bs) ∧ n3 ≤ 150000000000001 ∧ n3 ≤ c3 ∧ c3 ≤ 9223372036854775807
def Acts5 (w : World) (A : Option Addr) (n : Nat) : Prop :=
  n ≤ 9223372036854775807 ∧ (0 < n → ∃ b off, A = some ⟨b, off, none⟩ ∧ ∀ k, k < n → ∃ x y z A3 n3 c3 bs, Act5 w b off k x y z A3 n3 c3 bs)
theorem Acts5.later {w w' : World} {A : Option Addr} {n : Nat} (h : Acts5 w A n) (hb : Below w.heap.size w w') : Acts5 w' A n := by
  refine ⟨h.1, fun h0 => ?_⟩
  obtain ⟨b, off, hA, hk⟩ := h.2 h0
  refine ⟨b, off, hA, fun k hkn => ?_⟩
  obtain ⟨x, y, z, A3, n3, c3, bs, q0, q1, q2, q3, h1, h2, h3, h4, h5⟩ := hk k hkn
  exact ⟨x, y, z, A3, n3, c3, bs, cell_later hb q0, cell_later hb q1, cell_later hb q2, cell_later hb q3, h1, h2, h3, h4.below hb, h5⟩
end Go.Proofs.Ytebaojcfmkobjaa
/-
  The statements of layer 5: wakes.
-/
namespace Go.Proofs.Ytebaojcfmkobjaa
open Go.RowKit

theorem Sl.const (w : World) (t : TypeId) (u : Value) (fr : Nat × Nat) : Sl (w.alloc (.cells #[u] t fr)) 1 (some ⟨w.heap.size, 0, none⟩) 1 [u] := by
  refine ⟨rfl, fun _ => ⟨w.heap.size, 0, rfl, by simp, fun j v hv => ?_⟩⟩
  have h := heap_alloc_new w (.cells #[u] t fr)
  rw [Nat.zero_add]
  refine (cell_of_row _ w.heap.size j _ _ _ h).trans ?_
  match j, hv with
  | 0, hv => simpa using hv
/-- What a law's walk keeps of a book. -/
structure BkW (w0 : World) (G : Nat → Prop) (w : World) (g : Nat) (L : List (List UInt8)) (sg : Int × Int → Bool) : Prop where
  bk : BkI G w g L sg
  lo : ∀ b, G b → w0.heap.size ≤ b
  below : Below w0.heap.size w0 w
theorem BkW.next {w0 : World} {G : Nat → Prop} {w w' : World} {g : Nat} {L L' : List (List UInt8)} {sg sg' : Int × Int → Bool} (h : BkW w0 G w g L sg) (hn : BkN G g L' sg' w w') : ∃ G', BkW w0 G' w' g L' sg' ∧ ∀ b, G' b → G b ∨ w.heap.size ≤ b := by
  obtain ⟨G', h1, h2, h3⟩ := hn
  have hs := h.below.size
  refine ⟨G', ⟨h1, fun b hb => ?_, h.below.trans (h3.to_below h.lo hs)⟩, h2⟩
  rcases h2 b hb with hb | hb
  · exact h.lo b hb
  · omega
theorem BkW.step {w0 : World} {G : Nat → Prop} {w w' : World} {g : Nat} {L : List (List UInt8)} {sg : Int × Int → Bool} (h : BkW w0 G w g L sg) (hb : Below w.heap.size w w') : BkW w0 G w' g L sg :=
  ⟨h.bk.below hb, h.lo, below_then h.below hb⟩
theorem BkW.drewN {w0 : World} {G : Nat → Prop} {w : World} {g : Nat} {L : List (List UInt8)} {sg : Int × Int → Bool} (h : BkW w0 G w g L sg) (q : Nat) : BkW w0 G (w.drewN q) g L sg := ⟨h.bk.drewN q, h.lo, below_drewN h.below q⟩
end Go.Proofs.Ytebaojcfmkobjaa
/-
  Two books side by side, the code's and the reference's; bytes written over.
-/
namespace Go.Proofs.Ytebaojcfmkobjaa
open Go.RowKit

/-- The code's book at g, the reference's at r, apart. -/
structure Tw (w0 : World) (G1 G2 : Nat → Prop) (w : World) (g r : Nat) (L : List (List UInt8)) (sg : Int × Int → Bool) (L2 : List (List UInt8)) (ps : List (Int × Int)) : Prop where
  bk : BkI G1 w g L sg
  rf : RfI G2 w r L2 ps
  ap : ∀ b, G1 b → ¬ G2 b
  lo1 : ∀ b, G1 b → w0.heap.size ≤ b
  lo2 : ∀ b, G2 b → w0.heap.size ≤ b
  below : Below w0.heap.size w0 w
section
variable {w0 w w' : World} {G1 G2 : Nat → Prop} {g r : Nat} {L L2 L' : List (List UInt8)} {sg sg' : Int × Int → Bool} {ps ps' : List (Int × Int)}
theorem Tw.step (h : Tw w0 G1 G2 w g r L sg L2 ps) (hb : Below w.heap.size w w') : Tw w0 G1 G2 w' g r L sg L2 ps := ⟨h.bk.below hb, h.rf.below hb, h.ap, h.lo1, h.lo2, below_then h.below hb⟩
theorem Tw.drewN (h : Tw w0 G1 G2 w g r L sg L2 ps) (q : Nat) : Tw w0 G1 G2 (w.drewN q) g r L sg L2 ps := ⟨h.bk.drewN q, h.rf.drewN q, h.ap, h.lo1, h.lo2, below_drewN h.below q⟩
/-- Blocks of neither have changed. -/
theorem Tw.chg {F : Nat → Prop} (h : Tw w0 G1 G2 w g r L sg L2 ps) (hc : Chg F w w') (h1 : ∀ b, F b → ¬ G1 b) (h2 : ∀ b, F b → ¬ G2 b) (h3 : ∀ b, F b → w0.heap.size ≤ b) : Tw w0 G1 G2 w' g r L sg L2 ps :=
  ⟨h.bk.keep hc (fun b hg hf => h1 b hf hg), h.rf.keep hc (fun b hg hf => h2 b hf hg), h.ap, h.lo1, h.lo2, h.below.trans (hc.to_below h3 h.below.size)⟩
theorem Tw.impl (h : Tw w0 G1 G2 w g r L sg L2 ps) (hn : BkN G1 g L' sg' w w') : ∃ G1', Tw w0 G1' G2 w' g r L' sg' L2 ps ∧ ∀ b, G1' b → G1 b ∨ w.heap.size ≤ b := by
  obtain ⟨G', q1, q2, q3⟩ := hn
  have hs := h.below.size
  refine ⟨G', ⟨q1, h.rf.keep q3 (fun b hg hf => h.ap b hf hg), fun b hb hg => ?_, fun b hb => ?_, h.lo2, h.below.trans (q3.to_below h.lo1 hs)⟩, q2⟩
  · rcases q2 b hb with hb | hb
    · exact h.ap b hb hg
    · have := h.rf.lt b hg; omega
  · rcases q2 b hb with hb | hb
    · exact h.lo1 b hb
    · omega
theorem Tw.sign (h : Tw w0 G1 G2 w g r L sg L2 ps) (h1 : BkI G1 w' g L sg') (h2 : Chg G1 w w') : Tw w0 G1 G2 w' g r L sg' L2 ps :=
  ⟨h1, h.rf.keep h2 (fun b hg hf => h.ap b hf hg), h.ap, h.lo1, h.lo2, h.below.trans (h2.to_below h.lo1 h.below.size)⟩
theorem Tw.ref (h : Tw w0 G1 G2 w g r L sg L2 ps) (hn : RfN G2 r L' ps' w w') : ∃ G2', Tw w0 G1 G2' w' g r L sg L' ps' ∧ ∀ b, G2' b → G2 b ∨ w.heap.size ≤ b := by
  obtain ⟨G', q1, q2, q3⟩ := hn
  have hs := h.below.size
  refine ⟨G', ⟨h.bk.keep q3 (fun b hg hf => h.ap b hg hf), q1, fun b hb hg => ?_, h.lo1, fun b hb => ?_, h.below.trans (q3.to_below h.lo2 hs)⟩, q2⟩
  · rcases q2 b hg with hg | hg
    · exact h.ap b hb hg
    · have := h.bk.lt b hb; omega
  · rcases q2 b hb with hb | hb
    · exact h.lo2 b hb
    · omega
theorem RfN.chg {G : Nat → Prop} {g : Nat} {L : List (List UInt8)} {ps : List (Int × Int)} {w w' : World} (h : RfN G g L ps w w') : Chg G w w' := by
  obtain ⟨_, _, _, h⟩ := h
  exact h
end
end Go.Proofs.Ytebaojcfmkobjaa
