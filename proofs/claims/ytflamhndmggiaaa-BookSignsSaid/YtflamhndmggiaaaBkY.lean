
/-
  Two books side by side, the code's and the reference's; bytes written over.
-/
import Derived.Test.YtflamhndmggiaaaBkX
import Derived.Test.YtflamhndmggiaaaSpo
namespace Go.Proofs.Ytflamhndmggiaaa
open Go.RowKit

set_option maxRecDepth 100000 in
set_option maxHeartbeats 1000000 in
theorem law0_Bytes_chg {v : Value} {n base : Nat} {xs : List UInt8} (w : World) (h : w.ownsRow base 5 1 v n (bytes8 xs)) (hbase : base ≤ w.heap.size) (hn : n ≤ 1099511627776) :
    Calls Try.prog 36 #[v] w fun e w' => e = .returned (.tuple #[]) ∧ Chg (fun b => v.ownBlock = some b) w w' := by
  obtain ⟨i0, hi, hz0, hz1, hz2⟩ := info_parts Try.infoByte
  obtain ⟨A, c, rfl⟩ := own_slice h
  go_enter Try.func36, Try.ntmps36
  go_wp2_with fail
  go_loopw [2] (fun i wr => ∃ (k : Nat) (ys : List UInt8), k ≤ n ∧ i = .int .i64 k ∧ wr.ownsRow base 5 1 (.slice A n c) n (bytes8 ys) ∧ Chg (fun b => (Value.slice A n c).ownBlock = some b) w wr) (fun i _ => n - (intOf i).toNat)
  case atStart => exact ⟨0, xs, Nat.zero_le _, rfl, h, Chg.refl _ _⟩
  case round =>
    obtain ⟨k, ys, hk, rfl, hown, hb⟩ := hrel
    have hsz := hb.size
    by_cases hlt : k < n
    · have hl := hown.1
      rw [bytes8_len] at hl
      obtain ⟨g, cap, hv, hgb, hgl⟩ := hown.form (by omega)
      injection hv with hA _ hc
      subst hA
      subst hc
      have hc0 : wr.cell? ⟨g, k, none⟩ = some (.int .u8 ((ys[k]'(by omega)).toNat : Int)) := by rw [hown.cellAt k (by omega)]; simp only [bytes8, List.getElem?_map, List.getElem?_eq_getElem (show k < ys.length by omega)]; rfl
      have hf0 := hown.frozenAt k
      have hst := hide (fun u => hown.stored k u)
      have hb' : ∀ u, Hid (Chg (fun b => (Value.slice (some ⟨g, 0, none⟩) n c).ownBlock = some b) w (wr.setCell ⟨g, k, none⟩ u)) := fun u => hb.setCell (p := ⟨g, k, none⟩) (.inl rfl) u
      have HB := hide hb'
      clear hown hb' hb
      go_wp2_with fail
      go_roundw
      case rel =>
        refine ⟨k + 1, ys.set k ((ys[k]'(by omega)) ^^^ 85), by omega, by go_num, ?_, (HB.out _).out⟩
        have h9 := hst.out (.int .u8 (((ys[k]'(by omega)) ^^^ 85 : UInt8).toNat : Int))
        rw [show bytes8 (ys.set k ((ys[k]'(by omega)) ^^^ 85)) = (bytes8 ys).set k (.int .u8 (((ys[k]'(by omega)) ^^^ 85 : UInt8).toNat : Int)) by simp [bytes8, List.map_set]]
        rw [xor_u8]; exact h9.1
      case measure => simp [intOf]; omega
    · obtain rfl : k = n := by omega
      go_wp2_with (at_builtin; refine wpList_append_own _ rfl _ _ 28 rfl base 5 i0 (.int .u8 0) 1 1 Try.underlying28 hi hz0 hz1 hz2 rfl (by decide) _ _ _ rfl (hown.alloc _) ⟨wr.heap.size, 0, none⟩ 1 1 [.int .u8 5] rfl rfl (news_one _ _ _) (one_int _ _) (by unfold maxLen; omega) (by omega) (by simp; omega) ?_)
      intro v3 w3 _ hg3 _
      have hb4 := (hb.alloc (.cells #[.int .u8 5] 5)).then_grown hg3 (fun g e => .inl e)
      clear hg3 hown hb
      go_wp2_with fail
      go_end0
      exact ⟨rfl, hb4⟩

/-- The code's book at g, the reference's at r, apart. -/
structure Tw (w0 : World) (G1 G2 : Nat → Prop) (w : World) (g r : Nat) (L : List (List UInt8)) (sg : Int × Int → Bool) (L2 : List (List UInt8)) (ps : List (Int × Int)) : Prop where
  bk : BkI G1 w g L sg
  rf : RfI G2 w r L2 ps
  ap : ∀ b, G1 b → ¬ G2 b
  lo1 : ∀ b, G1 b → w0.heap.size ≤ b
  lo2 : ∀ b, G2 b → w0.heap.size ≤ b
  below : Below w0.heap.size w0 w
section
variable {w0 w w' : World} {G1 G2 : Nat → Prop} {g r : Nat} {L L2 L' : List (List UInt8)} {sg sg' : Int × Int → Bool} {ps ps' : List (Int × Int)}
theorem Tw.step (h : Tw w0 G1 G2 w g r L sg L2 ps) (hb : Below w.heap.size w w') : Tw w0 G1 G2 w' g r L sg L2 ps := ⟨h.bk.below hb, h.rf.below hb, h.ap, h.lo1, h.lo2, below_then h.below hb⟩
theorem Tw.drewN (h : Tw w0 G1 G2 w g r L sg L2 ps) (q : Nat) : Tw w0 G1 G2 (w.drewN q) g r L sg L2 ps := ⟨h.bk.drewN q, h.rf.drewN q, h.ap, h.lo1, h.lo2, below_drewN h.below q⟩
/-- Blocks of neither have changed. -/
theorem Tw.chg {F : Nat → Prop} (h : Tw w0 G1 G2 w g r L sg L2 ps) (hc : Chg F w w') (h1 : ∀ b, F b → ¬ G1 b) (h2 : ∀ b, F b → ¬ G2 b) (h3 : ∀ b, F b → w0.heap.size ≤ b) : Tw w0 G1 G2 w' g r L sg L2 ps :=
  ⟨h.bk.keep hc (fun b hg hf => h1 b hf hg), h.rf.keep hc (fun b hg hf => h2 b hf hg), h.ap, h.lo1, h.lo2, h.below.trans (hc.to_below h3 h.below.size)⟩
theorem Tw.impl (h : Tw w0 G1 G2 w g r L sg L2 ps) (hn : BkN G1 g L' sg' w w') : ∃ G1', Tw w0 G1' G2 w' g r L' sg' L2 ps ∧ ∀ b, G1' b → G1 b ∨ w.heap.size ≤ b := by
  obtain ⟨G', q1, q2, q3⟩ := hn
  have hs := h.below.size
  refine ⟨G', ⟨q1, h.rf.keep q3 (fun b hg hf => h.ap b hf hg), fun b hb hg => ?_, fun b hb => ?_, h.lo2, h.below.trans (q3.to_below h.lo1 hs)⟩, q2⟩
  · rcases q2 b hb with hb | hb
    · exact h.ap b hb hg
    · have := h.rf.lt b hg; omega
  · rcases q2 b hb with hb | hb
    · exact h.lo1 b hb
    · omega
theorem Tw.sign (h : Tw w0 G1 G2 w g r L sg L2 ps) (h1 : BkI G1 w' g L sg') (h2 : Chg G1 w w') : Tw w0 G1 G2 w' g r L sg' L2 ps :=
  ⟨h1, h.rf.keep h2 (fun b hg hf => h.ap b hf hg), h.ap, h.lo1, h.lo2, h.below.trans (h2.to_below h.lo1 h.below.size)⟩
theorem Tw.ref (h : Tw w0 G1 G2 w g r L sg L2 ps) (hn : RfN G2 r L' ps' w w') : ∃ G2', Tw w0 G1 G2' w' g r L sg L' ps' ∧ ∀ b, G2' b → G2 b ∨ w.heap.size ≤ b := by
  obtain ⟨G', q1, q2, q3⟩ := hn
  have hs := h.below.size
  refine ⟨G', ⟨h.bk.keep q3 (fun b hg hf => h.ap b hg hf), q1, fun b hb hg => ?_, h.lo1, fun b hb => ?_, h.below.trans (q3.to_below h.lo2 hs)⟩, q2⟩
  · rcases q2 b hg with hg | hg
    · exact h.ap b hb hg
    · have := h.bk.lt b hb; omega
  · rcases q2 b hb with hb | hb
    · exact h.lo2 b hb
    · omega
theorem RfN.chg {G : Nat → Prop} {g : Nat} {L : List (List UInt8)} {ps : List (Int × Int)} {w w' : World} (h : RfN G g L ps w w') : Chg G w w' := by
  obtain ⟨_, _, _, h⟩ := h
  exact h
end
end Go.Proofs.Ytflamhndmggiaaa
