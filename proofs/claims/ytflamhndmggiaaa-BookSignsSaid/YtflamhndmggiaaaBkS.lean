
/-
  The reference's book: contracts of Sign and Digest.
-/
import Derived.Test.YtflamhndmggiaaaBkR
import Derived.Deep.RegionLaw
import Derived.Deep.DeepCutAuto
namespace Go.Proofs.Ytflamhndmggiaaa
open Go.RowKit

/-- Pairs behind an asking that answered r. -/
def psUp (r : Int) (ps : List (Int × Int)) (p : Int × Int) : List (Int × Int) := if r = 0 then ps ++ [p] else ps
theorem sgUp_ps (r : Int) (ps : List (Int × Int)) (p : Int × Int) : sgUp r (fun q => decide (q ∈ ps)) p = fun q => decide (q ∈ psUp r ps p) := by
  funext q
  unfold sgUp psUp sgAdd
  by_cases h : r = 0
  · simp only [h, if_true]
    rw [Bool.eq_iff_iff]
    simp [or_comm]
  · simp [h]
theorem RfM.pair {G : Nat → Prop} {g : Nat} {L : List (List UInt8)} {ps : List (Int × Int)} {a b : Int} {w w1 w2 : World} {G1 : Nat → Prop} (h1 : ∀ b, G1 b → G b ∨ w.heap.size ≤ b) (hc : Chg G w w1) (h2 : RfM G1 g L (ps.map (·.1) ++ [a]) (ps.map (·.2) ++ [b]) w1 w2) : RfN G g L (ps ++ [(a, b)]) w w2 := by
  obtain ⟨G2, h, q, c⟩ := h2
  have hs := hc.size
  refine ⟨G2, by unfold RfI; simpa using h, fun x hx => ?_, hc.trans c h1⟩
  rcases q x hx with hx | hx
  · exact h1 x hx
  · exact .inr (by omega)
set_option maxRecDepth 100000 in
set_option maxHeartbeats 2000000 in
theorem ref5_Sign {G : Nat → Prop} {g : Nat} {L : List (List UInt8)} {ps : List (Int × Int)} (who d : Int) (w : World) (h : RfI G w g L ps) (hp : Hid (ps.length ≤ 1048576)) {r : Int} (hr : Hid (sgR L.length who d = r)) :
    Calls Try.prog 37 #[.pointer (some ⟨g, 0, none⟩), .int .i64 who, .int .i64 d] w fun e w' => e = .returned (.int .i64 r) ∧ RfN G g L (psUp r ps (who, d)) w w' := by
  obtain ⟨i0, hi, hz0, hz1, hz2⟩ := info_parts infoRef
  by_cases h0 : 1 ≤ who ∧ who ≤ 16
  · have hw1 : decide (who < 1) = false := by simp; omega
    have hw2 : decide (16 < who) = false := by simp; omega
    obtain ⟨AL, cL, A2, c2, A3, c3, k0, -, -, hl, -⟩ := h.open_
    by_cases hd : 1 ≤ d ∧ d ≤ (L.length : Int)
    · have HR : Hid (0 = r) := by rw [Hid, ← hr.out, sgR, if_pos h0, if_pos hd]
      obtain rfl := HR.out
      have hd1 : decide (d < 1) = false := by simp; omega
      have hd2 : decide ((L.length : Int) < d) = false := by simp; omega
      obtain ⟨X, c, k1, hl1, own1, push1⟩ := RfG.pushA h
      have HP1 := hide push1
      have HL2 : Hid ((ps.map (·.1)).length ≤ 1048576) := by rw [Hid, List.length_map]; exact hp.out
      have HL3 : Hid ((ps.map (·.2)).length ≤ 1048576) := by rw [Hid, List.length_map]; exact hp.out
      have HPS : Hid (∀ w1 w2 G1, (∀ b, G1 b → G b ∨ w.heap.size ≤ b) → Chg G w w1 → RfM G1 g L (ps.map (·.1) ++ [who]) (ps.map (·.2) ++ [d]) w1 w2 → RfN G g L (psUp 0 ps (who, d)) w w2) := fun w1 w2 G1 h1 h2 h3 => RfM.pair h1 h2 h3
      clear h h0 hd hr HR push1 hp
      generalize ps.map (·.1) = aa at k1 hl1 own1 HP1 HL2 HPS
      generalize ps.map (·.2) = bb at HP1 HL3 HPS
      obtain ⟨N, HN⟩ : ∃ N, Hid (aa.length = N) := ⟨_, rfl⟩
      rw [HN.out] at k1 hl1 own1 HP1 HL2
      go_enter Try.func37, Try.ntmps37
      go_wp2_with (at_builtin; refine wpList_append_own_at _ rfl _ _ 46 rfl 0 3 i0 (.int .i64 0) 1 8 Try.underlying46 hi hz0 hz1 hz2 rfl (by decide) _ N (ints aa) rfl (own1.alloc _) ⟨w.heap.size, 0, none⟩ 1 1 [.int .i64 who] rfl rfl (news_one _ _ _) (one_int _ _) (by have := HL2.out; unfold maxLen; omega) (by have := HL2.out; omega) (by omega) ?_)
      intro v1 w1 own1' hg1 _ hat1
      obtain ⟨X1, c1, rfl⟩ := own_slice own1'
      obtain ⟨q1, q2, q3⟩ := HP1.out _ who w1 X1 c1 hg1 own1' hat1
      have Q3 := hide q3
      clear own1 own1' hg1 hat1 k0 k1 hl1 q3 HP1
      go_upto_region 6 with fail
      generalize w1.setCell ⟨g, 1, none⟩ (.slice X1 (N + 1) c1) = w2 at Q3 ⊢
      clear q1 q2
      obtain ⟨G1, hR, hG1, hC1⟩ := Q3.out
      obtain ⟨X, c, k1, hl1, own1, push1⟩ := RfG.pushB hR
      have HP1 := hide push1
      have HG1 := hide hG1
      have HC1 := hide hC1
      clear push1 hR hG1 hC1 Q3
      obtain ⟨M, HM⟩ : ∃ M, Hid (bb.length = M) := ⟨_, rfl⟩
      rw [HM.out] at k1 hl1 own1 HP1 HL3
      go_wp2_with (at_builtin; refine wpList_append_own_at _ rfl _ _ 46 rfl 0 3 i0 (.int .i64 0) 1 8 Try.underlying46 hi hz0 hz1 hz2 rfl (by decide) _ M (ints bb) rfl (own1.alloc _) ⟨w2.heap.size, 0, none⟩ 1 1 [.int .i64 d] rfl rfl (news_one _ _ _) (one_int _ _) (by have := HL3.out; unfold maxLen; omega) (by have := HL3.out; omega) (by omega) ?_)
      intro v1 w1 own1' hg1 _ hat1
      obtain ⟨X1, c1, rfl⟩ := own_slice own1'
      obtain ⟨q1, q2, q3⟩ := HP1.out _ d w1 X1 c1 hg1 own1' hat1
      have Q3 := hide (HPS.out _ _ _ HG1.out HC1.out q3)
      clear own1 own1' hg1 hat1 k1 hl1 q3 HP1
      go_wp2_with fail
      go_ret
      exact ⟨rfl, Q3.out⟩
    · have HR : Hid (3 = r) := by rw [Hid, ← hr.out, sgR, if_pos h0, if_neg hd]
      obtain rfl := HR.out
      have HF : Hid (RfN G g L (psUp 3 ps (who, d)) w w) := ⟨G, h, fun b hb => .inl hb, Chg.refl _ _⟩
      have HD := hide hd
      clear h h0 hd hr HR hp
      generalize L.length = N at k0 hl HD
      by_cases hd1 : d < 1
      · have e1 : decide (d < 1) = true := by simpa using hd1
        clear hd1
        go_enter Try.func37, Try.ntmps37
        go_wp2_with fail
        go_ret
        exact ⟨rfl, HF.out⟩
      · have e1 : decide (d < 1) = false := by simpa using hd1
        have e2 : decide ((N : Int) < d) = true := by have := HD.out; simp; omega
        clear hd1
        go_enter Try.func37, Try.ntmps37
        go_wp2_with fail
        go_ret
        exact ⟨rfl, HF.out⟩
  · have HR : Hid (1 = r) := by rw [Hid, ← hr.out, sgR, if_neg h0]
    obtain rfl := HR.out
    have HF : Hid (RfN G g L (psUp 1 ps (who, d)) w w) := ⟨G, h, fun b hb => .inl hb, Chg.refl _ _⟩
    have HN := hide h0
    clear h h0 hr HR hp
    go_enter Try.func37, Try.ntmps37
    go_wp2_with fail
    all_goals
      first
        | (go_ret; exact ⟨rfl, HF.out⟩)
        | (exfalso; exact HN.out ⟨by omega, by omega⟩)

/-- One thing more. -/
theorem RfG.pushL {G : Nat → Prop} {w : World} {g : Nat} {L : List (List UInt8)} {aa bb : List Int} (h : RfG G w g L aa bb) :
    ∃ A1 c1 els s2 s3, Blk w g 59 #[.slice A1 L.length c1, s2, s3] ∧ w.ownsRow 0 28 1 (.slice A1 L.length c1) L.length els ∧ L.length ≤ 9223372036854775807 ∧
      ∀ (w6 wa w8 : World) (A6 A8 : Option Addr) (n c6 c8 : Nat) (x : List UInt8), x.length = n → n ≤ 1048576 → Chg (fun _ => False) w w6 → w6.ownsRow w.heap.size 5 1 (.slice A6 n c6) n (bytes8 x) → Chg (fun _ => False) w6 wa → w6.heap.size < wa.heap.size →
        wa.grownBy w8 (Value.slice A1 L.length c1).ownBlock → w8.ownsRow 0 28 1 (.slice A8 (L.length + 1) c8) (L.length + 1) (els ++ [.slice A6 n c6]) → ((Value.slice A8 (L.length + 1) c8).ownBlock = (Value.slice A1 L.length c1).ownBlock ∨ (Value.slice A8 (L.length + 1) c8).ownBlock = some wa.heap.size) →
        Blk w8 g 59 #[.slice A1 L.length c1, s2, s3] → RfM G g (L ++ [x]) aa bb w (w8.setCell ⟨g, 0, none⟩ (.slice A8 (L.length + 1) c8)) := by
  obtain ⟨hlt, hin, hsm, F, E, v, A2, A3, c2, c3, h1, h2, h3, h4, h5, h6, h7, h8, h9, h10, h11⟩ := h
  obtain ⟨A1, c1, els, rfl, hown, hrow, hel⟩ := id h6
  have hl := h6.val
  obtain ⟨_, _, e, hl⟩ := hl
  refine ⟨A1, c1, els, _, _, h5, hown, hl, fun w6 wa w8 A6 A8 n c6 c8 x hn hx c6' own6 ca hza hg8 own8 hat kb8 => ?_⟩
  have z1 := c6'.size
  have z2 := hg8.size
  have z3 : (w8.setCell ⟨g, 0, none⟩ (.slice A8 (L.length + 1) c8)).heap.size = w8.heap.size := by simp [World.setCell]
  have hgl := hlt g hin
  have stay : ∀ b, b < w.heap.size → b ≠ g → (Value.slice A1 L.length c1).ownBlock ≠ some b → (w8.setCell ⟨g, 0, none⟩ (.slice A8 (L.length + 1) c8)).heap[b]? = w.heap[b]? := fun b hb n1 n3 => by
    rw [Below.heap_setCell w8 _ _ b n1, hg8.block b (by omega) (fun e => n3 e.symm), ca.at_ (by omega) id, c6'.at_ hb id]
  have new6 : ∀ b, w.heap.size ≤ b → b < w6.heap.size → (w8.setCell ⟨g, 0, none⟩ (.slice A8 (L.length + 1) c8)).heap[b]? = w6.heap[b]? := fun b hb hb6 => by
    rw [Below.heap_setCell w8 _ _ b (by show b ≠ g; omega), hg8.block b (by omega) (fun e => by have := hlt b (h1 b (hrow b e.symm)); omega), ca.at_ hb6 id]
  have r8 : ∀ b, (Value.slice A8 (L.length + 1) c8).ownBlock = some b → ((Value.slice A1 L.length c1).ownBlock = some b ∨ b = wa.heap.size) ∧ b ≠ g ∧ b < w8.heap.size := fun b hb => by
    have hl8 := own_in own8 hb
    have ng : b ≠ g := by
      rintro rfl
      exact own_blk_ne own8 kb8 (by decide) hb
    rcases hat with h | h
    · rw [hb] at h
      exact ⟨.inl h.symm, ng, hl8⟩
    · rw [hb] at h
      injection h with h
      exact ⟨.inr h, ng, hl8⟩
  have apart : ∀ {X : Option Addr} {k c : Nat} {xs : List Value}, w.ownsRow 0 3 1 (.slice X k c) k xs → ∀ b, (Value.slice X k c).ownBlock = some b → (Value.slice A1 L.length c1).ownBlock ≠ some b := fun ho b hb e => by
    obtain ⟨cur, hc⟩ := h6.cells e
    rcases ho.2 with ⟨e0, _⟩ | ⟨g', cap, cur', e0, _, hh, _⟩
    · injection e0 with e1; rw [e1] at hb; cases hb
    · injection e0 with e1; rw [e1] at hb; injection hb with hb; subst hb
      rw [hc] at hh; injection hh with hh; injection hh with _ ht; exact absurd ht (by decide)
  have keep2 : ∀ {X : Option Addr} {k c : Nat} {xs : List Value}, w.ownsRow 0 3 1 (.slice X k c) k xs → (w8.setCell ⟨g, 0, none⟩ (.slice A8 (L.length + 1) c8)).ownsRow 0 3 1 (.slice X k c) k xs := fun ho =>
    own_at ho (fun b hb => stay b (own_in ho hb) (fun e => by subst e; exact own_blk_ne ho h5 (by decide) hb) (apart ho b hb))
  refine ⟨fun b => G b ∨ (w.heap.size ≤ b ∧ b < w8.heap.size), ⟨?_, .inl hin, ?_, fun b => F b ∨ (Value.slice A8 (L.length + 1) c8).ownBlock = some b, fun b => E b ∨ (w.heap.size ≤ b ∧ b < w6.heap.size), .slice A8 (L.length + 1) c8, A2, A3, c2, c3, ?_, ?_, ?_, .inl h4, kb8.set_ 0 (.slice A8 (L.length + 1) c8), ?_, keep2 h7, keep2 h8, fun b hb => .inl (h9 b hb), fun b hb => .inl (h10 b hb), h11⟩, ?_, ?_⟩
  · rintro b (hb | hb)
    · have := hlt b hb; omega
    · omega
  · intro y hy
    rcases List.mem_append.1 hy with hy | hy
    · exact hsm y hy
    · simp at hy; subst hy; omega
  · rintro b (hb | hb)
    · exact .inl (h1 b hb)
    · obtain ⟨h, _, hl8⟩ := r8 b hb
      rcases h with h | h
      · exact .inl (h1 b (hrow b h))
      · exact .inr ⟨by omega, by omega⟩
  · rintro b (hb | hb)
    · exact .inl (h2 b hb)
    · exact .inr ⟨hb.1, by omega⟩
  · rintro b (hb | hb) (he | he)
    · exact h3 b hb he
    · have := hlt b (h1 b hb); omega
    · obtain ⟨h, _⟩ := r8 b hb
      rcases h with h | h
      · exact h3 b (hrow b h) he
      · have := hlt b (h2 b he); omega
    · obtain ⟨h, _⟩ := r8 b hb
      rcases h with h | h
      · have := hlt b (h1 b (hrow b h)); omega
      · omega
  · refine ⟨A8, c8, els ++ [.slice A6 n c6], by simp, by rw [List.length_append]; exact own_at own8 (fun b hb => Below.heap_setCell w8 _ _ b (r8 b hb).2.1), fun b hb => .inr hb, fun i y hy => ?_⟩
    have hells : els.length = L.length := by have := hown.1; omega
    rcases Nat.lt_or_ge i L.length with hi | hi
    · rw [List.getElem?_append_left hi] at hy
      obtain ⟨u, hu, he⟩ := hel i y hy
      refine ⟨u, by rw [List.getElem?_append_left (by omega)]; exact hu, he.keep (by omega) (fun b hb hE => stay b hb ?_ ?_) (fun b hb => .inl hb)⟩
      · rintro rfl; exact h3 _ h4 hE
      · intro e; exact h3 _ (hrow b e) hE
    · have hi' : i = L.length := by have := lt_of_at hy; simp at this; omega
      subst hi'
      have hy' : y = x := by rw [List.getElem?_append_right (Nat.le_refl _)] at hy; simpa using hy.symm
      subst hy'
      refine ⟨.slice A6 n c6, by rw [List.getElem?_append_right (by omega)]; simp [hells], ?_⟩
      exact (ElF.of_own own6).keep (by omega) (fun b hb hE => new6 b hE.1 hE.2) (fun b hb => .inr hb)
  · rintro b (hb | hb)
    · exact .inl hb
    · exact .inr hb.1
  · refine ⟨?_, ?_, ?_, by omega, fun b hb hn => stay b hb ?_ ?_⟩
    · exact hg8.os.trans (ca.os.trans c6'.os)
    · exact hg8.tape.trans (ca.tape.trans c6'.tape)
    · exact hg8.output.trans (ca.output.trans c6'.output)
    · rintro rfl; exact hn hin
    · intro e; exact hn (h1 b (hrow b e))
end Go.Proofs.Ytflamhndmggiaaa
