/-
  Texts joined: words and contracts that later texts use; lemmas alone, no conditions of a statement.
-/
import Derived.Test.YtebaojcfmkobjaaGr20
import Derived.Deep.RegionLaw
import Derived.Deep.DeepCutAuto
import Derived.Lib.SlBytesConst
import Derived.Test.YtebaojcfmkobjaaGr03
set_option linter.unusedVariables false
set_option linter.unusedSimpArgs false
/-
  The reference's book: its memory, contracts of Find, Signed, Sign.
-/
namespace Go.Proofs.Ytebaojcfmkobjaa
open Go.RowKit

/-- The reference's book's memory: blocks G in all; things L; who (aa) signed what (bb). -/
structure RfG (G : Nat → Prop) (w : World) (g : Nat) (L : List (List UInt8)) (aa bb : List Int) : Prop where
  mk ::
  lt : ∀ b, G b → b < w.heap.size
  in_ : G g
  sm : ∀ x ∈ L, x.length ≤ 1048576
  rest : ∃ (F E : Nat → Prop) (v : Value) (A2 A3 : Option Addr) (c2 c3 : Nat), (∀ b, F b → G b) ∧ (∀ b, E b → G b) ∧ (∀ b, F b → ¬ E b) ∧ F g ∧ Blk w g 33 #[v, .slice A2 aa.length c2, .slice A3 bb.length c3] ∧ RwF F E w 60 v L ∧
    w.ownsRow 0 3 1 (.slice A2 aa.length c2) aa.length (ints aa) ∧ w.ownsRow 0 3 1 (.slice A3 bb.length c3) bb.length (ints bb) ∧
    (∀ b, (Value.slice A2 aa.length c2).ownBlock = some b → F b) ∧ (∀ b, (Value.slice A3 bb.length c3).ownBlock = some b → F b) ∧ (∀ b, (Value.slice A2 aa.length c2).ownBlock = some b → (Value.slice A3 bb.length c3).ownBlock ≠ some b)
def RfM (G : Nat → Prop) (g : Nat) (L : List (List UInt8)) (aa bb : List Int) (w w' : World) : Prop := ∃ G', RfG G' w' g L aa bb ∧ (∀ b, G' b → G b ∨ w.heap.size ≤ b) ∧ Chg G w w'
/-- .. pairs ps: who signed what. -/
def RfI (G : Nat → Prop) (w : World) (g : Nat) (L : List (List UInt8)) (ps : List (Int × Int)) : Prop := RfG G w g L (ps.map (·.1)) (ps.map (·.2))
def RfN (G : Nat → Prop) (g : Nat) (L : List (List UInt8)) (ps : List (Int × Int)) (w w' : World) : Prop := ∃ G', RfI G' w' g L ps ∧ (∀ b, G' b → G b ∨ w.heap.size ≤ b) ∧ Chg G w w'
theorem RfI.keep {G H : Nat → Prop} {w w' : World} {g : Nat} {L : List (List UInt8)} {ps : List (Int × Int)} (h : RfI G w g L ps) (hc : Chg H w w') (ha : ∀ b, G b → ¬ H b) : RfI G w' g L ps := by
  obtain ⟨hlt, hin, hsm, F, E, v, A2, A3, c2, c3, h1, h2, h3, h4, h5, h6, h7, h8, h9, h10, h11⟩ := h
  have hk : ∀ b, G b → w'.heap[b]? = w.heap[b]? := fun b hb => hc.at_ (hlt b hb) (ha b hb)
  exact ⟨fun b hb => Nat.lt_of_lt_of_le (hlt b hb) hc.size, hin, hsm, F, E, v, A2, A3, c2, c3, h1, h2, h3, h4, h5.at_block (hk _ (h1 _ h4)),
    h6.keep hc.size (fun b _ hb => hk b (h1 b (h6.inF hb))) (fun b _ hb => hk b (h2 b hb)) (fun _ => id) (fun _ => id), own_at h7 (fun b hb => hk b (h1 b (h9 b hb))), own_at h8 (fun b hb => hk b (h1 b (h10 b hb))), h9, h10, h11⟩
theorem RfI.below {G : Nat → Prop} {w w' : World} {g : Nat} {L : List (List UInt8)} {ps : List (Int × Int)} (h : RfI G w g L ps) (hb : Below w.heap.size w w') : RfI G w' g L ps := h.keep (Chg.of_below (F := fun _ => False) hb) (fun _ _ => id)
theorem RfI.drewN {G : Nat → Prop} {w : World} {g : Nat} {L : List (List UInt8)} {ps : List (Int × Int)} (h : RfI G w g L ps) (n : Nat) : RfI G (w.drewN n) g L ps := h.keep ((Chg.refl (fun _ => False) w).drewN n) (fun _ _ => id)
/-- An empty one, just made. -/
theorem RfI.made (w : World) : RfI (fun b => b = w.heap.size) (w.alloc (.cells #[.slice none 0 0, .slice none 0 0, .slice none 0 0] 33)) w.heap.size [] [] :=
  ⟨fun b hb => by subst hb; simp, rfl, by simp, fun b => b = w.heap.size, fun _ => False, .slice none 0 0, none, none, 0, 0, fun _ => id, fun _ hf => hf.elim, fun _ _ => id, rfl, Blk.new _ _ _, RwF.nil_, World.ownsRow_nil _ _ _ _, World.ownsRow_nil _ _ _ _, (fun b hb => by cases hb), (fun b hb => by cases hb), (fun b hb => by cases hb)⟩
theorem RfI.open_ {G : Nat → Prop} {w : World} {g : Nat} {L : List (List UInt8)} {ps : List (Int × Int)} (h : RfI G w g L ps) :
    ∃ A c A2 c2 A3 c3, w.cell? ⟨g, 0, none⟩ = some (.slice A L.length c) ∧ w.cell? ⟨g, 1, none⟩ = some (.slice A2 ps.length c2) ∧ w.cell? ⟨g, 2, none⟩ = some (.slice A3 ps.length c3) ∧ L.length ≤ 9223372036854775807 ∧ ps.length ≤ 9223372036854775807 ∧
      Sl w 1 A2 ps.length (ints (ps.map (·.1))) ∧ Sl w 1 A3 ps.length (ints (ps.map (·.2))) ∧
      ∀ (i : Nat) (x : List UInt8), L[i]? = some x → ∃ b A1 c1, A = some ⟨b, 0, none⟩ ∧ w.cell? ⟨b, i, none⟩ = some (.slice A1 x.length c1) ∧ Sl w 1 A1 x.length (bytes8 x) ∧ x.length ≤ 1048576 := by
  obtain ⟨_, _, hsm, F, E, v, A2, A3, c2, c3, _, _, _, _, hb, hr, o2, o3, _⟩ := h
  rw [List.length_map] at hb o2
  rw [List.length_map] at hb o3
  obtain ⟨A, c, rfl, hl⟩ := hr.val
  obtain ⟨_, _, e, q1, q2⟩ := own_slice_cap o2
  unfold maxLen at q2
  refine ⟨A, c, A2, c2, A3, c3, hb.at_ rfl, hb.at_ rfl, hb.at_ rfl, hl, by omega, Sl.of_own o2, Sl.of_own o3, fun i x hx => ?_⟩
  obtain ⟨b, c', A1, c1, e, _, k1, k2, k3, k4⟩ := hr.at_ hx
  injection e with e
  exact ⟨b, A1, c1, e, k1, k4, hsm x (mem_of_at hx)⟩

end Go.Proofs.Ytebaojcfmkobjaa
/-
  The reference's book: contracts of Sign and Digest.
-/
namespace Go.Proofs.Ytebaojcfmkobjaa
open Go.RowKit

theorem RfM.pair {G : Nat → Prop} {g : Nat} {L : List (List UInt8)} {ps : List (Int × Int)} {a b : Int} {w w1 w2 : World} {G1 : Nat → Prop} (h1 : ∀ b, G1 b → G b ∨ w.heap.size ≤ b) (hc : Chg G w w1) (h2 : RfM G1 g L (ps.map (·.1) ++ [a]) (ps.map (·.2) ++ [b]) w1 w2) : RfN G g L (ps ++ [(a, b)]) w w2 := by
  obtain ⟨G2, h, q, c⟩ := h2
  have hs := hc.size
  refine ⟨G2, by unfold RfI; simpa using h, fun x hx => ?_, hc.trans c h1⟩
  rcases q x hx with hx | hx
  · exact h1 x hx
  · exact .inr (by omega)
end Go.Proofs.Ytebaojcfmkobjaa
/-
  The reference's book: contract of Digest.
-/
namespace Go.Proofs.Ytebaojcfmkobjaa
open Go.RowKit

end Go.Proofs.Ytebaojcfmkobjaa
/-
  Small words of the laws of layer 5: num, Within, heavy; the argument's records.
-/
namespace Go.Proofs.Ytebaojcfmkobjaa
open Go.RowKit

theorem IntKind.u64_wrap_nonneg (i : Int) : 0 ≤ IntKind.u64.wrap i := by
  rw [IntKind.wrap_u64]; omega
set_option maxHeartbeats 400000 in
theorem law0_Within (i : Int) (m : Nat) (w : World) (h0 : 0 < m) (h1 : m ≤ 100000) : Calls Try.prog 32 #[.int .i64 i, .int .i64 m] w fun e w' => (∃ r : Nat, r < m ∧ e = .returned (.int .i64 r)) ∧ w = w' := by
  have hm0 : ((m : Int) == 0) = false := by simp; omega
  go_enter Try.func32, Try.ntmps32
  go_wp2_with fail
  go_ret
  have hu := IntKind.u64_wrap_nonneg i
  have hlt := Int.tmod_lt_of_pos (IntKind.u64.wrap i) (show (0 : Int) < m by omega)
  have hge := Int.tmod_nonneg (m : Int) hu
  refine ⟨⟨((IntKind.u64.wrap i).tmod m).toNat, by omega, ret_int ?_⟩, rfl⟩
  have : wrap64 ((IntKind.u64.wrap i).tmod m) = (IntKind.u64.wrap i).tmod m := by unfold wrap64; omega
  rw [this]
  omega
/-- A bool of which R holds. -/
def Ans (R : Bool → Prop) (e : Ending) : Prop := ∃ r, e = .returned (.bool r) ∧ R r
/-- The k-th record of a list of four cells each: three numbers and bytes. -/
def Act5 (w : World) (b off k : Nat) (x y z : Int) (A3 : Option Addr) (n3 c3 : Nat) (bs : List UInt8) : Prop :=
  w.cell? ⟨b, off + k * 4, none⟩ = some (.int .i64 x) ∧ w.cell? ⟨b, off + k * 4 + 1, none⟩ = some (.int .i64 y) ∧ w.cell? ⟨b, off + k * 4 + 2, none⟩ = some (.int .i64 z) ∧ w.cell? ⟨b, off + k * 4 + 3, none⟩ = some (.slice A3 n3 c3) ∧
    (-9223372036854775808 ≤ x ∧ x ≤ 9223372036854775807) ∧ (-9223372036854775808 ≤ y ∧ y ≤ 9223372036854775807) ∧ (-9223372036854775808 ≤ z ∧ z ≤ 9223372036854775807) ∧ Sl w 1 A3 n3 (bytes8 bs) ∧ n3 ≤ 150000000000001 ∧ n3 ≤ c3 ∧ c3 ≤ 9223372036854775807
def Acts5 (w : World) (A : Option Addr) (n : Nat) : Prop :=
  n ≤ 9223372036854775807 ∧ (0 < n → ∃ b off, A = some ⟨b, off, none⟩ ∧ ∀ k, k < n → ∃ x y z A3 n3 c3 bs, Act5 w b off k x y z A3 n3 c3 bs)
theorem Acts5.later {w w' : World} {A : Option Addr} {n : Nat} (h : Acts5 w A n) (hb : Below w.heap.size w w') : Acts5 w' A n := by
  refine ⟨h.1, fun h0 => ?_⟩
  obtain ⟨b, off, hA, hk⟩ := h.2 h0
  refine ⟨b, off, hA, fun k hkn => ?_⟩
  obtain ⟨x, y, z, A3, n3, c3, bs, q0, q1, q2, q3, h1, h2, h3, h4, h5⟩ := hk k hkn
  exact ⟨x, y, z, A3, n3, c3, bs, cell_later hb q0, cell_later hb q1, cell_later hb q2, cell_later hb q3, h1, h2, h3, h4.below hb, h5⟩
end Go.Proofs.Ytebaojcfmkobjaa
/-
  The statements of layer 5: wakes.
-/
namespace Go.Proofs.Ytebaojcfmkobjaa
open Go.RowKit

theorem Sl.const (w : World) (t : TypeId) (u : Value) (fr : Nat × Nat) : Sl (w.alloc (.cells #[u] t fr)) 1 (some ⟨w.heap.size, 0, none⟩) 1 [u] := by
  refine ⟨rfl, fun _ => ⟨w.heap.size, 0, rfl, by simp, fun j v hv => ?_⟩⟩
  have h := heap_alloc_new w (.cells #[u] t fr)
  rw [Nat.zero_add]
  refine (cell_of_row _ w.heap.size j _ _ _ h).trans ?_
  match j, hv with
  | 0, hv => simpa using hv
/-- What a law's walk keeps of a book. -/
structure BkW (w0 : World) (G : Nat → Prop) (w : World) (g : Nat) (L : List (List UInt8)) (sg : Int × Int → Bool) : Prop where
  bk : BkI G w g L sg
  lo : ∀ b, G b → w0.heap.size ≤ b
  below : Below w0.heap.size w0 w
theorem BkW.next {w0 : World} {G : Nat → Prop} {w w' : World} {g : Nat} {L L' : List (List UInt8)} {sg sg' : Int × Int → Bool} (h : BkW w0 G w g L sg) (hn : BkN G g L' sg' w w') : ∃ G', BkW w0 G' w' g L' sg' ∧ ∀ b, G' b → G b ∨ w.heap.size ≤ b := by
  obtain ⟨G', h1, h2, h3⟩ := hn
  have hs := h.below.size
  refine ⟨G', ⟨h1, fun b hb => ?_, h.below.trans (h3.to_below h.lo hs)⟩, h2⟩
  rcases h2 b hb with hb | hb
  · exact h.lo b hb
  · omega
theorem BkW.step {w0 : World} {G : Nat → Prop} {w w' : World} {g : Nat} {L : List (List UInt8)} {sg : Int × Int → Bool} (h : BkW w0 G w g L sg) (hb : Below w.heap.size w w') : BkW w0 G w' g L sg :=
  ⟨h.bk.below hb, h.lo, below_then h.below hb⟩
theorem BkW.drewN {w0 : World} {G : Nat → Prop} {w : World} {g : Nat} {L : List (List UInt8)} {sg : Int × Int → Bool} (h : BkW w0 G w g L sg) (q : Nat) : BkW w0 G (w.drewN q) g L sg := ⟨h.bk.drewN q, h.lo, below_drewN h.below q⟩
theorem notG_own {G : Nat → Prop} {w : World} {B n m : Nat} {e : TypeId} {A : Option Addr} {c : Nat} {cs : List Value} (ho : w.ownsRow B e 1 (.slice A m c) n cs) (hlt : ∀ b, G b → b < B) : 0 < m → ∀ b off, A = some ⟨b, off, none⟩ → ¬ G b := fun _ b off e hg => by
  have h1 := hlt b hg
  have h2 := (ho.lt b (by rw [e]; rfl)).1
  omega
end Go.Proofs.Ytebaojcfmkobjaa
/-
  Two books side by side, the code's and the reference's; bytes written over.
-/
namespace Go.Proofs.Ytebaojcfmkobjaa
open Go.RowKit

/-- The code's book at g, the reference's at r, apart. -/
structure Tw (w0 : World) (G1 G2 : Nat → Prop) (w : World) (g r : Nat) (L : List (List UInt8)) (sg : Int × Int → Bool) (L2 : List (List UInt8)) (ps : List (Int × Int)) : Prop where
  bk : BkI G1 w g L sg
  rf : RfI G2 w r L2 ps
  ap : ∀ b, G1 b → ¬ G2 b
  lo1 : ∀ b, G1 b → w0.heap.size ≤ b
  lo2 : ∀ b, G2 b → w0.heap.size ≤ b
  below : Below w0.heap.size w0 w
section
variable {w0 w w' : World} {G1 G2 : Nat → Prop} {g r : Nat} {L L2 L' : List (List UInt8)} {sg sg' : Int × Int → Bool} {ps ps' : List (Int × Int)}
theorem Tw.step (h : Tw w0 G1 G2 w g r L sg L2 ps) (hb : Below w.heap.size w w') : Tw w0 G1 G2 w' g r L sg L2 ps := ⟨h.bk.below hb, h.rf.below hb, h.ap, h.lo1, h.lo2, below_then h.below hb⟩
theorem Tw.drewN (h : Tw w0 G1 G2 w g r L sg L2 ps) (q : Nat) : Tw w0 G1 G2 (w.drewN q) g r L sg L2 ps := ⟨h.bk.drewN q, h.rf.drewN q, h.ap, h.lo1, h.lo2, below_drewN h.below q⟩
/-- Blocks of neither have changed. -/
theorem Tw.chg {F : Nat → Prop} (h : Tw w0 G1 G2 w g r L sg L2 ps) (hc : Chg F w w') (h1 : ∀ b, F b → ¬ G1 b) (h2 : ∀ b, F b → ¬ G2 b) (h3 : ∀ b, F b → w0.heap.size ≤ b) : Tw w0 G1 G2 w' g r L sg L2 ps :=
  ⟨h.bk.keep hc (fun b hg hf => h1 b hf hg), h.rf.keep hc (fun b hg hf => h2 b hf hg), h.ap, h.lo1, h.lo2, h.below.trans (hc.to_below h3 h.below.size)⟩
theorem Tw.sign (h : Tw w0 G1 G2 w g r L sg L2 ps) (h1 : BkI G1 w' g L sg') (h2 : Chg G1 w w') : Tw w0 G1 G2 w' g r L sg' L2 ps :=
  ⟨h1, h.rf.keep h2 (fun b hg hf => h.ap b hf hg), h.ap, h.lo1, h.lo2, h.below.trans (h2.to_below h.lo1 h.below.size)⟩
theorem RfN.chg {G : Nat → Prop} {g : Nat} {L : List (List UInt8)} {ps : List (Int × Int)} {w w' : World} (h : RfN G g L ps w w') : Chg G w w' := by
  obtain ⟨_, _, _, h⟩ := h
  exact h
end
end Go.Proofs.Ytebaojcfmkobjaa
