/-
  Contracts of the law's helpers of layer 4: weights, what is heavy, that it wakes.
-/
import Derived.Test.YtihpmaifcebpiaaBatE
import Derived.Test.YtihpmaifcebpiaaBatB
import Derived.Test.YtihpmaifcebpiaaBatQ
namespace Go.Proofs.Ytihpmaifcebpiaa
open Go.RowKit

def twT : List TxD → Nat → Nat
  | [], n => n
  | t :: r, n => if n < 1048576 then twT r (n + (t.k.size + t.v.size)) else n
def tsz : List TxD → Nat
  | [] => 0
  | t :: r => t.k.size + t.v.size + tsz r
theorem twT_small : ∀ (ls : List TxD) (n : Nat), twT ls n ≤ 5000 → n + tsz ls ≤ 5000
  | [], n, h => by simpa [twT, tsz] using h
  | t :: r, n, h => by
    rw [twT] at h
    split at h
    · have := twT_small r _ h
      simp only [tsz]; omega
    · omega
set_option maxRecDepth 100000 in
set_option maxHeartbeats 1000000 in
theorem law0_TxWeight {A : Option Addr} {n c T : Nat} {ls : List TxD} (w : World) (hs : Sl w 4 A n (txsC ls)) (hn : n ≤ 150000000000001) (hz : ∀ t ∈ ls, t.k.size ≤ 150000000000001 ∧ t.v.size ≤ 150000000000001) (ht : twT ls n = T) :
    Calls Try.prog 47 #[.slice A n c] w fun e w' => e = .returned (.int .i64 T) ∧ Below w.heap.size w w' := by
  have HL := hide hs.txlen
  have HZ := hide hz
  have HT := hide ht
  clear hz ht
  go_enter Try.func47, Try.ntmps47
  go_wp2_with fail
  go_loopw [3, 4] (fun t j wr => ∃ (k W q : Nat), k ≤ n ∧ j = .int .i64 k ∧ t = .int .i64 W ∧ W ≤ 460000000000001 ∧ Hid (twT (ls.drop k) W = T) ∧ wr = w.drewN q) (fun _ j _ => n - (intOf j).toNat)
  case atStart => exact ⟨0, n, 0, Nat.zero_le _, rfl, rfl, by omega, HT, rfl⟩
  case round =>
    obtain ⟨k, W, q, hk, rfl, rfl, hW, HW, rfl⟩ := hrel
    by_cases hlt : k < n
    · obtain ⟨b, off, t, rfl, HU, c0, c1, c2, c3, _⟩ := hs.tx hlt
      obtain ⟨z1, z2⟩ := HZ.out t (List.mem_of_getElem? HU.out)
      clear hs
      by_cases hw : W ≤ 1048575
      · obtain ⟨x, hx⟩ : ∃ x, t.k.size = x := ⟨_, rfl⟩
        obtain ⟨y, hy⟩ : ∃ y, t.v.size = y := ⟨_, rfl⟩
        have HX := hide hx
        have HY := hide hy
        obtain ⟨s, q', tk, tv⟩ := t
        simp only at c0 c1 c2 c3 z1 z2 hx hy
        rw [hx] at z1
        rw [hy] at z2
        have hd : decide ((W : Int) < 1048576) = true := by rw [decide_eq_true_eq]; omega
        have HW2 := hide hw
        have HWN : Hid (twT (ls.drop (k + 1)) (W + x + y) = T) := by
          have h1 := HW.out
          rw [drop_at HU.out, twT, if_pos (by have := HW2.out; omega)] at h1
          simp only at h1
          rw [hx, hy] at h1
          rw [Hid, Nat.add_assoc]; exact h1
        clear hw
        go_wp2_with fail
        go_quiet (fail)
        go_wp2_with fail
        go_roundw
        case rel => exact ⟨k + 1, W + x + y, q + nq, by omega, by go_num, by go_num, by have := HW2.out; omega, HWN, rfl⟩
        case measure => simp [intOf]; omega
      · have hd : decide ((W : Int) < 1048576) = false := by rw [decide_eq_false_iff_not]; omega
        have hF : W = T := by
          have h1 := HW.out
          rw [drop_at HU.out, twT, if_neg (by omega)] at h1
          exact h1
        subst hF
        clear hw
        go_wp2_with fail
        go_ret
        exact ⟨rfl, below_drewN (Below.refl _ _) q⟩
    · obtain rfl : k = n := by omega
      have hF : W = T := by
        have h1 := HW.out
        rw [List.drop_eq_nil_of_le (by rw [HL.out]; exact Nat.le_refl _)] at h1
        exact h1
      subst hF
      go_wp2_with fail
      go_ret
      exact ⟨rfl, below_drewN (Below.refl _ _) q⟩
set_option maxHeartbeats 400000 in
theorem law4_num (n : Int) (w : World) : Calls Try.prog 18 #[.int .i64 n] w fun e w' => e = .returned (.int .i64 n) ∧ w = w' := by
  go_enter Try.func18, Try.ntmps18
  go_wp2_with fail
  go_ret
  exact ⟨rfl, rfl⟩
/-- Is it more than is played? -/
def heavy4 (T nX : Nat) : Bool := decide (5000 < T) || decide (5000 < nX)
theorem heavy4_false {T nX : Nat} (h : heavy4 T nX = false) : T ≤ 5000 ∧ nX ≤ 5000 := by
  simp [heavy4] at h; omega
set_option maxRecDepth 100000 in
set_option maxHeartbeats 1000000 in
theorem law4_heavy {A A2 : Option Addr} {m c n2 c2 T : Nat} {l : List TxD} {a b : Int} (w : World) (hs : Sl w 4 A m (txsC l)) (hn : m ≤ 150000000000001) (hz : ∀ t ∈ l, t.k.size ≤ 150000000000001 ∧ t.v.size ≤ 150000000000001) (ht : twT l m = T)
    (hn2 : n2 ≤ 9223372036854775807) :
    Calls Try.prog 15 #[.agg #[.int .i64 a, .int .i64 b, .slice A m c, .slice A2 n2 c2]] w fun e w' => e = .returned (.bool (heavy4 T n2)) ∧ Below w.heap.size w w' := by
  have hb0 := below_alloc w (.cells #[.int .i64 a, .int .i64 b, .slice A m c, .slice A2 n2 c2] 29)
  have HC := hide (law0_TxWeight (c := c) _ (hs.below hb0) hn hz ht)
  have HB := hide hb0
  clear hb0 hs hz ht
  by_cases h1 : 5000 < T
  · have hq : heavy4 T n2 = true := by simp [heavy4, h1]
    have hd : decide ((5000 : Int) < (T : Int)) = true := by rw [decide_eq_true_eq]; omega
    rw [hq]
    clear hq h1
    go_enter Try.func15, Try.ntmps15
    go_wp2_with fail
    refine HC.out.mono ?_
    rintro e w1 ⟨rfl, hb1⟩
    have HB1 := hide (HB.out.trans (hb1.mono HB.out.size))
    clear hb1
    go_wp2_with fail
    go_ret
    exact ⟨rfl, HB1.out⟩
  · have hd : decide ((5000 : Int) < (T : Int)) = false := by rw [decide_eq_false_iff_not]; omega
    have hq : heavy4 T n2 = decide ((5000 : Int) < (n2 : Int)) := by simp [heavy4, h1]; omega
    have hk := (Blk.new w 29 #[.int .i64 a, .int .i64 b, .slice A m c, .slice A2 n2 c2])
    rw [hq]
    clear hq h1
    go_enter Try.func15, Try.ntmps15
    go_wp2_with fail
    refine HC.out.mono ?_
    rintro e w1 ⟨rfl, hb1⟩
    have c3 : w1.cell? ⟨w.heap.size, 3, none⟩ = some (.slice A2 n2 c2) := (hk.later hb1).at_ rfl
    have HB1 := hide (HB.out.trans (hb1.mono HB.out.size))
    clear hb1 hk
    go_wp2_with fail
    go_ret
    exact ⟨rfl, HB1.out⟩
theorem wake_may : mayB 1 1 [⟨1, 1, ⟨#[107]⟩, ⟨#[]⟩⟩] = true := by decide
set_option maxRecDepth 100000 in
set_option maxHeartbeats 1000000 in
theorem law4_wakes (w : World) : Calls Try.prog 21 #[] w fun e w' => e = .returned (.bool true) ∧ Below w.heap.size w w' := by
  have hs : Sl (w.alloc (.cells #[.int .i64 1, .int .i64 1, .string ⟨#[107]⟩, .string ⟨#[]⟩] 67)) 4 (some ⟨w.heap.size, 0, none⟩) 1 (txsC [⟨1, 1, ⟨#[107]⟩, ⟨#[]⟩⟩]) := Sl.of_blk (size := 4) (n := 1) (Blk.new w 67 #[.int .i64 1, .int .i64 1, .string ⟨#[107]⟩, .string ⟨#[]⟩]) rfl
  have hb0 := below_alloc w (.cells #[.int .i64 1, .int .i64 1, .string ⟨#[107]⟩, .string ⟨#[]⟩] 67)
  have hz : TxZ [⟨1, 1, ⟨#[107]⟩, ⟨#[]⟩⟩] := by intro t ht; simp at ht; subst ht; exact ⟨by decide, by decide⟩
  obtain ⟨L, HL⟩ : ∃ L, Hid ((batchB 1 1 [⟨1, 1, ⟨#[107]⟩, ⟨#[]⟩⟩]).length = L) := ⟨_, rfl⟩
  have hL : L ≤ 2000 := by rw [← HL.out]; exact (batch_size wake_may).2
  have HP := hide (parseB_there wake_may)
  have HC := hide (batch_Bytes_yes (c := 1) 1 1 _ hs hz wake_may)
  have HB := hide hb0
  clear hb0 hs hz
  unfold batchV at HC
  go_enter Try.func21, Try.ntmps21
  go_wp2_with fail
  refine HC.out.mono ?_
  rintro e w1 ⟨v1, rfl, hown1, hb1⟩
  rw [HL.out] at hown1
  obtain ⟨A1, c1, rfl, hc1, hc1m⟩ := own_slice_cap hown1
  unfold maxLen at hc1m
  have hb2 := HB.out.trans (hb1.mono HB.out.size)
  have s1 := Sl.of_own hown1
  clear hown1 hb1 HC
  go_wp2_with fail
  refine (batch_Parse_yes _ s1 hc1 hc1m HP.out).mono ?_
  rintro e w2 ⟨v2, rfl, hown2, hb3⟩
  obtain ⟨A2, c2, rfl⟩ := own_slice hown2
  have hb4 := below_then hb2 hb3
  clear s1 hown2 hb3 hb2
  go_wp2_with fail
  refine (law4_num _ _).mono ?_
  rintro e w' ⟨rfl, rfl⟩
  go_wp2_with fail
  refine (law4_num _ _).mono ?_
  rintro e w' ⟨rfl, rfl⟩
  go_wp2_with fail
  go_ret
  exact ⟨rfl, hb4.alloc hb4.size _⟩
/-- Law 4's argument: at each place a batch, bytes. -/
def Asks4 (w : World) (A : Option Addr) (n : Nat) : Prop :=
  n ≤ 9223372036854775807 ∧ (0 < n → ∃ b off, A = some ⟨b, off, none⟩ ∧ ∀ k, k < n → ∃ x y A1 n1 c1 l A2 n2 c2 bs, w.cell? ⟨b, off + k * 4, none⟩ = some (.int .i64 x) ∧ w.cell? ⟨b, off + k * 4 + 1, none⟩ = some (.int .i64 y) ∧
    w.cell? ⟨b, off + k * 4 + 2, none⟩ = some (.slice A1 n1 c1) ∧ w.cell? ⟨b, off + k * 4 + 3, none⟩ = some (.slice A2 n2 c2) ∧
    (Sl w 4 A1 n1 (txsC l) ∧ n1 ≤ 150000000000001 ∧ ∀ t ∈ l, t.k.size ≤ 150000000000001 ∧ t.v.size ≤ 150000000000001) ∧ (Sl w 1 A2 n2 (bytes8 bs) ∧ n2 ≤ 150000000000001 ∧ n2 ≤ c2 ∧ c2 ≤ 9223372036854775807))
end Go.Proofs.Ytihpmaifcebpiaa
