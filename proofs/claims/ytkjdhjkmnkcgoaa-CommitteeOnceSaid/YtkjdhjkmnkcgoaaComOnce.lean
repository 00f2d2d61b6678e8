/-
  The walk of CommitteeOnce: at every list of records the call answers true and changes nothing that was there.
-/
import Derived.Test.YtkjdhjkmnkcgoaaComC
import Derived.Deep.RegionHeld3
import Derived.Deep.AppendLies
import Derived.Deep.LoopGhost
namespace Go.Proofs.Ytkjdhjkmnkcgoaa
open Go.RowKit

theorem cnt_congr (m : Nat) (xs ys : List Int) (h : ∀ i : Int, 1 ≤ i → i ≤ m → (i ∈ xs ↔ i ∈ ys)) : cnt m xs = cnt m ys := by
  induction m with
  | zero => simp [cnt]
  | succ m ih =>
    rw [cnt_succ, cnt_succ, ih (fun i h1 h2 => h i h1 (by omega))]
    have e := h ((m : Int) + 1) (by omega) (by omega)
    simp only [e]
theorem enoughB_congr {m : Int} {xs ys : List Int} (h : ∀ i : Int, 1 ≤ i → i ≤ m → (i ∈ xs ↔ i ∈ ys)) : enoughB m xs = enoughB m ys := by
  unfold enoughB
  cases hI : comIs m
  · rfl
  · have := comIs_true hI
    rw [cnt_congr m.toNat xs ys (fun i h1 h2 => h i h1 (by omega))]
theorem someB_congr {m : Int} {xs ys : List Int} (h : ∀ i : Int, 1 ≤ i → i ≤ m → (i ∈ xs ↔ i ∈ ys)) : someB m xs = someB m ys := by
  unfold someB
  cases hI : comIs m
  · rfl
  · have := comIs_true hI
    rw [cnt_congr m.toNat xs ys (fun i h1 h2 => h i h1 (by omega))]
theorem enough_some {m : Int} {xs : List Int} (h : enoughB m xs = true) : someB m xs = true := by
  unfold enoughB at h
  unfold someB
  simp only [Bool.and_eq_true, decide_eq_true_eq] at h ⊢
  have := comIs_true h.1
  exact ⟨h.1, by omega⟩

/-- What the list back holds when all but the first r of the numbers are in it. -/
def BackOk (N : Int) (xs : List Int) (r : Nat) (ys : List Int) : Prop := ys.length = 4 * (xs.length - r) ∧ ∀ i : Int, 1 ≤ i → i ≤ N → (i ∈ ys ↔ i ∈ xs.drop r)
theorem BackOk.nil_ (N : Int) (xs : List Int) {n : Nat} (hn : xs.length = n) : BackOk N xs n [] := by subst hn; exact ⟨by simp, fun i _ _ => by simp⟩
theorem BackOk.step {N u : Int} {xs ys : List Int} {r : Nat} (h : BackOk N xs (r + 1) ys) (hu : xs[r]? = some u) : BackOk N xs r (ys ++ [u, u, N + 1 + r, -(r : Int)]) := by
  have hl := lt_of_at hu
  refine ⟨by rw [List.length_append, h.1]; simp; omega, fun i h1 h2 => ?_⟩
  have hh := h.2 i h1 h2
  rw [drop_at hu, List.mem_append, hh]
  simp only [List.mem_cons, List.not_mem_nil, or_false]
  constructor
  · rintro (a | a | a | a | a)
    · exact .inr a
    · exact .inl a
    · exact .inl a
    · omega
    · omega
  · rintro (a | a)
    · exact .inr (.inl a)
    · exact .inl a
theorem BackOk.all {N : Int} {xs ys : List Int} (h : BackOk N xs 0 ys) : ∀ i : Int, 1 ≤ i → i ≤ N → (i ∈ ys ↔ i ∈ xs) := fun i h1 h2 => by simpa using h.2 i h1 h2
theorem news_four (w : World) (a b c d : Value) (t : TypeId) : ∀ j v, [a, b, c, d][j]? = some v → (w.alloc (.cells #[a, b, c, d] t)).cell? ((⟨w.heap.size, 0, none⟩ : Addr).add j) = some v := by
  intro j v hv
  rw [add_lit, cell_new]
  match j, hv with
  | 0, hv => simpa using hv
  | 1, hv => simpa using hv
  | 2, hv => simpa using hv
  | 3, hv => simpa using hv
theorem four_int (k : IntKind) (a b c d : Int) : ∀ u ∈ [Value.int k a, .int k b, .int k c, .int k d], u.oneCell' = true := by intro u hu; simp at hu; rcases hu with rfl | rfl | rfl | rfl <;> rfl

set_option maxRecDepth 100000 in
set_option maxHeartbeats 2000000 in
theorem walk_CommitteeOnce {v : Value} {w : World} (ho : ∃ A n c, v = .slice A n c ∧ Asks3 w A n) :
    Calls Try.prog 9 #[v] w fun r w' => r = .returned (.bool true) ∧ Below w.heap.size w w' := by
  obtain ⟨A, n, c, rfl, hn, h⟩ := ho
  obtain ⟨i0, hi, hz0, hz1, hz2⟩ := info_parts Try.infoInt
  go_enter Try.func9, Try.ntmps9
  go_wp2_with fail
  go_loopw [3] (fun i wr => ∃ k : Nat, k ≤ n ∧ i = .int .i64 k ∧ Below w.heap.size w wr) (fun i _ => n - (intOf i).toNat)
  case atStart => exact ⟨0, Nat.zero_le _, rfl, Below.refl _ _⟩
  case round =>
    obtain ⟨k, hk, rfl, hb⟩ := hrel
    by_cases hlt : k < n
    · obtain ⟨b, off, rfl, hc⟩ := h (by omega)
      obtain ⟨N, R, A', n', c', xs, c0, c1, c2, hs, hn'⟩ := hc k hlt
      have d0 := cell_later hb c0
      have d1 := cell_later hb c1
      have d2 := cell_later hb c2
      have hs' := hs.below hb
      have HL := hide hs.ilen
      clear c0 c1 c2 hc h hs
      have hbs := hb.size
      have HB0 : Blk (wr.alloc (.cells #[.int .i64 N, .int .i64 R, .slice A' n' c'] 39)) wr.heap.size 39 #[.int .i64 N, .int .i64 R, .slice A' n' c'] := Blk.new _ _ _
      by_cases hm : k < 30
      · by_cases hh : 300 < n'
        · have hd : decide (300 < n') = true := by simpa using hh
          go_wp2_with (first | (go_at_call 36; refine (law3_heavy _ _ _ _ _ _ hn').mono ?_; rintro e w1 ⟨rfl, hb1⟩; have B1 := HB0.later hb1; have e0 := B1.at_ (i := 0) rfl; have e2 := B1.at_ (i := 2) rfl; have s1 := (hs'.alloc (.cells #[.int .i64 N, .int .i64 R, .slice A' n' c'] 39)).below hb1))
          go_ret
          exact ⟨rfl, (hb.alloc hbs _).trans (hb1.mono (by simp; omega))⟩
        · have hd : decide (300 < n') = false := by simpa using hh
          cases hI : comIs N
          case false =>
            go_wp2_with (first
              | (go_at_call 36; refine (law3_heavy _ _ _ _ _ _ hn').mono ?_; rintro e w1 ⟨rfl, hb1⟩; have B1 := HB0.later hb1; have e0 := B1.at_ (i := 0) rfl; have e2 := B1.at_ (i := 2) rfl; have s1 := (hs'.alloc (.cells #[.int .i64 N, .int .i64 R, .slice A' n' c'] 39)).below hb1)
              | (go_at_call 38; refine (com_Enough _ _ _ _ _ _ s1 hn').mono ?_; rintro e w3 ⟨rfl, hb3⟩; have B3 := B1.later hb3; have g0 := B3.at_ (i := 0) rfl; have g2 := B3.at_ (i := 2) rfl; have s3 := s1.below hb3)
              | (go_at_call 26; refine (law3_num _ _).mono ?_; rintro e w' ⟨rfl, rfl⟩))
            go_roundw
            case rel => exact ⟨k + 1, by omega, by go_num, (((hb.alloc hbs _).trans (hb1.mono (by simp; omega))).trans (hb3.mono (by have := hb1.size; simp at this; omega)))⟩
            case measure => simp [intOf]; omega
          case true =>
            have hN := comIs_true hI
            obtain ⟨hN1, hN2, hN3⟩ := hN
            clear hN3
            go_wp2_with (first
              | (go_at_call 36; refine (law3_heavy _ _ _ _ _ _ hn').mono ?_; rintro e w1 ⟨rfl, hb1⟩; have B1 := HB0.later hb1; have e0 := B1.at_ (i := 0) rfl; have e2 := B1.at_ (i := 2) rfl; have s1 := (hs'.alloc (.cells #[.int .i64 N, .int .i64 R, .slice A' n' c'] 39)).below hb1)
              | (go_at_call 38; refine (com_Enough _ _ _ _ _ _ s1 hn').mono ?_; rintro e w3 ⟨rfl, hb3⟩; have B3 := B1.later hb3; have g0 := B3.at_ (i := 0) rfl; have g2 := B3.at_ (i := 2) rfl; have s3 := s1.below hb3)
              | (go_at_call 26; refine (law3_num _ _).mono ?_; rintro e w' ⟨rfl, rfl⟩))
            have hz1' : wr.heap.size < w1.heap.size := by have := hb1.size; simp at this; omega
            have hz3 : w1.heap.size ≤ w3.heap.size := hb3.size
            obtain ⟨wo, rfl⟩ : ∃ wo : World, wo = wr := ⟨_, rfl⟩
            go_loopw [7, 8] (fun v i wq => ∃ (r : Nat) (z : Int) (ys : List Int), r ≤ n' ∧ z + 1 = r ∧ i = .int .i64 z ∧ wq.ownsRow w3.heap.size 3 1 v (4 * (n' - r)) (ints ys) ∧ Hid (BackOk N xs r ys) ∧ Below w3.heap.size w3 wq) (fun _ i _ => (intOf i + 1).toNat)
            case atStart => exact ⟨n', n' - 1, [], Nat.le_refl _, by omega, rfl, by rw [Nat.sub_self]; exact World.ownsRow_nil _ _ _ _, BackOk.nil_ _ _ HL.out, Below.refl _ _⟩
            case round =>
              obtain ⟨r, z, ys, hr, hz, rfl, hown, HK, hbq⟩ := hrel
              have hzq : w3.heap.size ≤ wr.heap.size := hbq.size
              have Bq := B3.later hbq
              have q0 := Bq.at_ (i := 0) rfl
              have q2 := Bq.at_ (i := 2) rfl
              have sq := s3.below hbq
              clear e0 e2 g0 g2 d0 d1 d2
              cases r with
              | succ r =>
                obtain rfl : z = (r : Int) := by omega
                clear hz
                obtain ⟨b', off', u, rfl, HU, hcu3, hb3'⟩ := s3.int (k := r) (by omega)
                have hcu : wr.cell? ⟨b', off' + r, none⟩ = some (.int .i64 u) := cell_later hbq hcu3
                have ag : u7.ownBlock ≠ some wo.heap.size := fun e => by have := (hown.lt _ e).1; omega
                have ab : u7.ownBlock ≠ some b' := fun e => by have := (hown.lt _ e).1; omega
                have hzw : wo.heap.size < wr.heap.size := by omega
                have hbw : b' < wr.heap.size := by omega
                have hr0 : (0 : Int) ≤ (r : Int) := Int.natCast_nonneg _
                have hr1 : (r : Int) < (n' : Int) := by omega
                clear hcu3 s1 s3 sq HB0 B1 B3
                go_wp2_with fail
                go_region_held3 (fun w' => w'.cell? ⟨wo.heap.size, 0, none⟩ = some (.int .i64 N) ∧ w'.cell? ⟨wo.heap.size, 2, none⟩ = some (.slice (some ⟨b', off', none⟩) n' c') ∧ w'.cell? ⟨b', off' + r, none⟩ = some (.int .i64 u))
                  (first
                    | go_keep
                    | (go_split_ands
                       refine ⟨?_, ?_, ?_⟩
                       · (rw [hgrow.cell_far _ (by simp; omega) (Ne.symm ag)]; assumption)
                       · (rw [hgrow.cell_far _ (by simp; omega) (Ne.symm ag)]; assumption)
                       · (rw [hgrow.cell_far _ (by simp; omega) (Ne.symm ab)]; assumption)))
                  ((refine step_append_lies _ (by rfl) _ _ _ (by rfl) w3.heap.size 3 i0 _ 1 8 Try.underlying37 hi hz0 hz1 hz2 rfl (by omega) u7 (4 * (n' - (r + 1))) (ints ys) (by rfl) ((hown.alloc _).drew) ⟨wr.heap.size, 0, none⟩ 4 4 [.int .i64 u, .int .i64 u, .int .i64 (IntKind.i64.wrap (IntKind.i64.wrap (N + 1) + ↑r)), .int .i64 (IntKind.i64.wrap (-(r : Int)))] (by rfl) (by rfl) (World.news_of_block (cs := #[.int .i64 u, .int .i64 u, .int .i64 (IntKind.i64.wrap (IntKind.i64.wrap (N + 1) + ↑r)), .int .i64 (IntKind.i64.wrap (-(r : Int)))]) (t := 3) (fr := (0, 0)) (heap_alloc_new wr _)) (four_int _ _ _ _ _) (by omega) (by simp [maxLen]; omega) (by omega) (by simp; omega) (wr.heap.size + 1) (by simp) ?_; intro gg cap w5 hown5 hgrow hat hlt5))
                have hw1 : IntKind.i64.wrap (N + 1) = N + 1 := IntWalk.i64_in _ (by omega)
                have hw2 : IntKind.i64.wrap (N + 1 + r) = N + 1 + r := IntWalk.i64_in _ (by omega)
                have hw3 : IntKind.i64.wrap (-(r : Int)) = -(r : Int) := IntWalk.i64_in _ (by omega)
                rw [hw1, hw2, hw3] at hown5
                have K5 := HK.out.step HU.out
                have e5 : 4 * (n' - (r + 1)) + 4 = 4 * (n' - r) := by omega
                have e6 : ints ys ++ [.int .i64 u, .int .i64 u, .int .i64 (N + 1 + r), .int .i64 (-(r : Int))] = ints (ys ++ [u, u, N + 1 + r, -(r : Int)]) := by simp [ints]
                rw [e5, e6] at hown5
                rw [e5]
                have hb5 : Below w3.heap.size w3 w5 := ((hbq.alloc hzq _).drew).grown hgrow (by simp; omega) (fun g hg' => (hown.lt g hg').1)
                clear hw1 hw2 hw3 e5 e6 hown hgrow
                go_wp2_with fail
                go_roundw
                case rel => exact ⟨r, r - 1, _, by omega, by omega, rfl, hown5, K5, hb5⟩
                case measure => simp [intOf]
              | zero =>
                obtain rfl : z = -1 := by omega
                clear hz
                obtain ⟨A7, c7, rfl, hc7, hc7'⟩ := own_slice_cap hown
                have t7 := Sl.of_own hown
                have hn7 : 4 * (n' - 0) ≤ 9223372036854775807 := by omega
                have hE : enoughB N ys = enoughB N xs := enoughB_congr HK.out.all
                have hS : someB N ys = someB N xs := someB_congr HK.out.all
                have hbW : Below w.heap.size w wr := (((hb.alloc hbs _).trans (hb1.mono (by simp; omega))).trans (hb3.mono (by omega))).trans (hbq.mono (by omega))
                clear s1 s3 HB0 B1 B3
                cases hq : enoughB N xs
                case false =>
                  go_wp2_with (first | (go_at_call 38; refine (com_Enough _ _ _ _ _ _ t7 hn7).mono ?_; rintro e w8 ⟨rfl, hb8⟩; have B8 := Bq.later hb8; have g0 := B8.at_ (i := 0) rfl; have g2 := B8.at_ (i := 2) rfl; have s8 := sq.below hb8; have t8 := t7.below hb8))
                  (go_at_call 39; refine (com_Some _ _ _ _ _ _ s8 hn').mono ?_; rintro e w9 ⟨rfl, hb9⟩; have B9 := B8.later hb9; have l0 := B9.at_ (i := 0) rfl; have l2 := B9.at_ (i := 2) rfl; have t9 := t8.below hb9; clear s8 t8)
                  go_wp2_with fail
                  (go_at_call 39; refine (com_Some _ _ _ _ _ _ t9 hn7).mono ?_; rintro e w10 ⟨rfl, hb10⟩)
                  go_wp2_with (first | (go_at_call 26; refine (law3_num _ _).mono ?_; rintro e w' ⟨rfl, rfl⟩))
                  go_roundw
                  case rel => exact ⟨k + 1, by omega, by go_num, ((hbW.trans (hb8.mono (by omega))).trans (hb9.mono (by have := hb8.size; omega))).trans (hb10.mono (by have := hb8.size; have := hb9.size; omega))⟩
                  case measure => simp [intOf]; omega
                case true =>
                  have hq2 := enough_some hq
                  go_wp2_with (first | (go_at_call 38; refine (com_Enough _ _ _ _ _ _ t7 hn7).mono ?_; rintro e w8 ⟨rfl, hb8⟩; have B8 := Bq.later hb8; have g0 := B8.at_ (i := 0) rfl; have g2 := B8.at_ (i := 2) rfl; have s8 := sq.below hb8; have t8 := t7.below hb8))
                  (go_at_call 39; refine (com_Some _ _ _ _ _ _ s8 hn').mono ?_; rintro e w9 ⟨rfl, hb9⟩; have B9 := B8.later hb9; have l0 := B9.at_ (i := 0) rfl; have l2 := B9.at_ (i := 2) rfl; have t9 := t8.below hb9; clear s8 t8)
                  go_wp2_with fail
                  (go_at_call 39; refine (com_Some _ _ _ _ _ _ t9 hn7).mono ?_; rintro e w10 ⟨rfl, hb10⟩)
                  go_wp2_with (first | (go_at_call 26; refine (law3_num _ _).mono ?_; rintro e w' ⟨rfl, rfl⟩))
                  go_roundw
                  case rel => exact ⟨k + 1, by omega, by go_num, ((hbW.trans (hb8.mono (by omega))).trans (hb9.mono (by have := hb8.size; omega))).trans (hb10.mono (by have := hb8.size; have := hb9.size; omega))⟩
                  case measure => simp [intOf]; omega
      · go_wp2_with (first | (go_at_call 25; refine (law3_wakes _).mono ?_; rintro e w' ⟨rfl, rfl⟩))
        go_ret
        exact ⟨rfl, hb⟩
    · go_wp2_with (first | (go_at_call 25; refine (law3_wakes _).mono ?_; rintro e w' ⟨rfl, rfl⟩))
      go_ret
      exact ⟨rfl, hb⟩
end Go.Proofs.Ytkjdhjkmnkcgoaa
