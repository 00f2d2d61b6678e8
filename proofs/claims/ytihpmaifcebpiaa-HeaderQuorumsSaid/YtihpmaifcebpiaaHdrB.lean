/-
  Contracts: a header's bytes: the program's and the reference's.
-/
import Derived.Test.YtihpmaifcebpiaaHdrO
import Derived.Test.YtihpmaifcebpiaaTxs
import Derived.Deep.RegionHeld3
import Derived.Deep.DrawnRows
namespace Go.Proofs.Ytihpmaifcebpiaa
open Go.RowKit

theorem digs_ok {l : List Int} (h : digs l = true) : ∀ x ∈ l, 0 ≤ x ∧ x ≤ 9223372036854775807 := fun x hx => by have := (digs_iff.1 h).1 x hx; omega
set_option maxRecDepth 100000 in
set_option maxHeartbeats 1000000 in
theorem wire_List {A : Option Addr} {n c : Nat} {l : List Int} (w : World) (hs : Sl w 1 A n (ints l)) (hn : n ≤ 1099511627776) (h0 : ∀ x ∈ l, 0 ≤ x ∧ x ≤ 9223372036854775807) (hb : (numsB l).length ≤ 1048576) {s : ByteArray} (hr : Hid (tx (numsB l) = s)) :
    Calls Try.prog 62 #[.slice A n c] w fun e w' => e = .returned (.string s) ∧ Below w.heap.size w w' := by
  have H0 := hide h0
  clear h0
  go_enter Try.func62, Try.ntmps62
  go_wp2_with fail
  refine (wire_Nums_yes _ hs hn H0.out hb).mono ?_
  rintro e w2 ⟨v2, rfl, hown2, hb2⟩
  obtain ⟨A3, c3, rfl⟩ := own_slice hown2
  have hcv := run_str_of_bytes (P := Try.prog) w2 27 9 5 Try.underlying27 Try.underlying5 Try.underlying9 (c := c3) (Sl.of_own hown2)
  rw [hr.out] at hcv
  clear hown2
  go_wp2_with fail
  go_ret
  exact ⟨rfl, hb2⟩
set_option maxRecDepth 100000 in
set_option maxHeartbeats 1000000 in
theorem header_Bytes_no {A1 A2 : Option Addr} {n1 c1 n2 c2 : Nat} (x : HdD) (w : World) (hs : Sl w 1 A1 n1 (ints x.bs)) (ht : Sl w 1 A2 n2 (ints x.ps)) (hn1 : n1 ≤ 9223372036854775807) (hn2 : n2 ≤ 9223372036854775807) (hr : Hid (formH 16 x = false)) :
    Calls Try.prog 28 #[hdV x.a x.r A1 n1 c1 A2 n2 c2] w fun e w' => e = .returned (.tuple #[.slice none 0 0, .int .i64 1]) ∧ Below w.heap.size w w' := by
  have hb0 := below_alloc' w (.cells #[.int .i64 x.a, .int .i64 x.r, .slice A1 n1 c1, .slice A2 n2 c2] 49)
  have HC := hide (header_form (c1 := c1) (c2 := c2) 16 x _ (hs.below hb0) (ht.below hb0) hn1 hn2 hr)
  have HB := hide hb0
  clear hb0 hs ht hr
  unfold hdV at HC ⊢
  go_enter Try.func28, Try.ntmps28
  go_wp2_with fail
  refine HC.out.mono ?_
  rintro e w1 ⟨rfl, hb1⟩
  have HB1 := hide (HB.out.trans (hb1.mono HB.out.size))
  clear hb1
  go_wp2_with fail
  go_ret2
  exact ⟨rfl, HB1.out⟩
set_option maxRecDepth 100000 in
set_option maxHeartbeats 4000000 in
theorem header_Bytes_yes {A1 A2 : Option Addr} {n1 c1 n2 c2 : Nat} (x : HdD) (w : World) (hs : Sl w 1 A1 n1 (ints x.bs)) (ht : Sl w 1 A2 n2 (ints x.ps)) (hr : Hid (formH 16 x = true)) :
    Calls Try.prog 28 #[hdV x.a x.r A1 n1 c1 A2 n2 c2] w fun e w' => ∃ v', e = .returned (.tuple #[v', .int .i64 0]) ∧ w'.ownsRow w.heap.size 5 1 v' (headerB x).length (bytes8 (headerB x)) ∧ Below w.heap.size w w' := by
  obtain ⟨h1, h2, h3, h4, h5, h6, h7⟩ := formH_iff.1 hr.out
  obtain ⟨z1, z2, z3, z4⟩ := header_size hr.out
  have hn1 : n1 ≤ 8 := by rw [← hs.ilen]; exact h3
  have hn2 : n2 ≤ 16 := by have := hs.ilen; have := ht.ilen; omega
  have HPB : Hid ((putB (headerT x)).length ≤ 1048576) := by have h : (headerB x).length ≤ 300 := z2; rw [headerB] at h; rw [Hid]; omega
  have D1 := hide (digs_ok h4)
  have D2 := hide (digs_ok h5)
  have L1 : Hid ((numsB x.bs).length ≤ 1048576) := by rw [Hid]; omega
  have L2 : Hid ((numsB x.ps).length ≤ 1048576) := by rw [Hid]; omega
  obtain ⟨S1, HS1⟩ : ∃ s, Hid (tx (numsB x.bs) = s) := ⟨_, rfl⟩
  obtain ⟨S2, HS2⟩ : ∃ s, Hid (tx (numsB x.ps) = s) := ⟨_, rfl⟩
  obtain ⟨⟨ha0, ha1⟩, ⟨hr0, hr1⟩⟩ := And.intro h1 h2
  clear h1 h2 h3 h4 h5 h6 h7 z1 z2 z3 z4
  obtain ⟨i0, hi, hz0, hz1, hz2⟩ := info_parts Try.infoStr
  have hb0 := below_alloc' w (.cells #[.int .i64 x.a, .int .i64 x.r, .slice A1 n1 c1, .slice A2 n2 c2] 49)
  have HBK := hide (Blk.new w 49 #[.int .i64 x.a, .int .i64 x.r, .slice A1 n1 c1, .slice A2 n2 c2])
  have HC := hide (header_form (c1 := c1) (c2 := c2) 16 x _ (hs.below hb0) (ht.below hb0) (by omega) (by omega) hr)
  have HB := hide hb0
  have HT : Hid (headerT x = [headerW, numS x.a, numS x.r, S1, S2]) := by rw [Hid, headerT, HS1.out, HS2.out]
  have HHB : Hid (headerB x = putB (headerT x)) := rfl
  obtain ⟨Tx, HTx⟩ : ∃ T, Hid (headerT x = T) := ⟨_, rfl⟩
  obtain ⟨Bx, HBx⟩ : ∃ T, Hid (headerB x = T) := ⟨_, rfl⟩
  rw [HTx.out] at HPB HT HHB
  rw [HBx.out] at HHB ⊢
  have HS := hide hs
  have HT' := hide ht
  clear hb0 hs ht hr HTx HBx
  obtain ⟨a, ra, bs, ps⟩ := x
  simp only at HBK HC HB HS HT' HT D1 D2 L1 L2 HS1 HS2 ha0 ha1 hr0 hr1 ⊢
  unfold hdV at HC ⊢
  go_enter Try.func28, Try.ntmps28
  go_wp2_with fail
  refine HC.out.mono ?_
  rintro e w1 ⟨rfl, hb1⟩
  have hk := HBK.out.later hb1
  have hbw := HB.out.trans (hb1.mono HB.out.size)
  have s1 := (HS.out.below HB.out).below hb1
  have s2 := (HT'.out.below HB.out).below hb1
  clear hb1 HC HBK HB HS HT'
  go_wp2_with fail
  obtain ⟨g, hg⟩ : ∃ g, w.heap.size = g := ⟨_, rfl⟩
  have hgw : w.heap.size < w1.heap.size := hk.lt
  have HX0 : Hid (∀ x ∈ [a, ra], 0 ≤ x ∧ x ≤ 9223372036854775807) := by intro x hx; simp at hx; omega
  have HG := hide hg
  rw [hg] at hk hgw ⊢
  clear hg
  have q0 : w1.cell? ⟨g, 0, none⟩ = some (.int .i64 a) := hk.at_ rfl
  have q1 : w1.cell? ⟨g, 1, none⟩ = some (.int .i64 ra) := hk.at_ rfl
  have q2 : w1.cell? ⟨g, 2, none⟩ = some (.slice A1 n1 c1) := hk.at_ rfl
  have q3 : w1.cell? ⟨g, 3, none⟩ = some (.slice A2 n2 c2) := hk.at_ rfl
  have hbc := Below.refl w1.heap.size w1
  (first | (go_region_held3 (fun w' => w'.cell? ⟨g, 0, none⟩ = some (.int .i64 a) ∧ w'.cell? ⟨g, 1, none⟩ = some (.int .i64 ra) ∧ w'.cell? ⟨g, 2, none⟩ = some (.slice A1 n1 c1) ∧ w'.cell? ⟨g, 3, none⟩ = some (.slice A2 n2 c2))
    (first | exact ⟨(hk.later (by first | exact hbc | exact hbc.drew | exact hbc.alloc hbc.size _ | exact (hbc.alloc hbc.size _).drew | exact ((hbc.alloc hbc.size _).alloc (by have := hbc.size; simp; try omega) _) | exact ((hbc.alloc hbc.size _).alloc (by have := hbc.size; simp; try omega) _).drew)).at_ rfl, (hk.later (by first | exact hbc | exact hbc.drew | exact hbc.alloc hbc.size _ | exact (hbc.alloc hbc.size _).drew | exact ((hbc.alloc hbc.size _).alloc (by have := hbc.size; simp; try omega) _) | exact ((hbc.alloc hbc.size _).alloc (by have := hbc.size; simp; try omega) _).drew)).at_ rfl, (hk.later (by first | exact hbc | exact hbc.drew | exact hbc.alloc hbc.size _ | exact (hbc.alloc hbc.size _).drew | exact ((hbc.alloc hbc.size _).alloc (by have := hbc.size; simp; try omega) _) | exact ((hbc.alloc hbc.size _).alloc (by have := hbc.size; simp; try omega) _).drew)).at_ rfl, (hk.later (by first | exact hbc | exact hbc.drew | exact hbc.alloc hbc.size _ | exact (hbc.alloc hbc.size _).drew | exact ((hbc.alloc hbc.size _).alloc (by have := hbc.size; simp; try omega) _) | exact ((hbc.alloc hbc.size _).alloc (by have := hbc.size; simp; try omega) _).drew)).at_ rfl⟩ | go_keep)
    ((first
      | (go_at_call 49; refine (wire_Texts _ (xs := [a, ra]) (Sl.two_int (by go_simp) (by go_simp)) (by omega) HX0.out).mono ?_; rintro e w6 ⟨v6, rfl, hown6, hb6⟩; obtain ⟨A6, c6, rfl⟩ := own_slice hown6; (try have k7 := ((Blk.new w1 9 #[.string ⟨#[104, 101, 97, 100, 101, 114]⟩]).alloc (.cells #[.int .i64 a, .int .i64 ra] 3)).drew.later hb6); (try have k7 := (Blk.new2 w1 (.cells #[.int .i64 a, .int .i64 ra] 3) 9 #[.string ⟨#[104, 101, 97, 100, 101, 114]⟩]).drew.later hb6); have hbc := below_then (by first | exact hbc | exact hbc.drew | exact hbc.alloc hbc.size _ | exact (hbc.alloc hbc.size _).drew | exact ((hbc.alloc hbc.size _).alloc (by have := hbc.size; simp; try omega) _) | exact ((hbc.alloc hbc.size _).alloc (by have := hbc.size; simp; try omega) _).drew) hb6)
      | (go_at_call 62; ((with_reducible refine (wire_List _ (s1.below (by first | exact hbc | exact hbc.drew | exact hbc.alloc hbc.size _ | exact (hbc.alloc hbc.size _).drew | exact ((hbc.alloc hbc.size _).alloc (by have := hbc.size; simp; try omega) _) | exact ((hbc.alloc hbc.size _).alloc (by have := hbc.size; simp; try omega) _).drew)) (by omega) D1.out L1.out HS1).mono ?_); rintro e w8 ⟨rfl, hb8⟩; have hbc := below_then (by first | exact hbc | exact hbc.drew | exact hbc.alloc hbc.size _ | exact (hbc.alloc hbc.size _).drew | exact ((hbc.alloc hbc.size _).alloc (by have := hbc.size; simp; try omega) _) | exact ((hbc.alloc hbc.size _).alloc (by have := hbc.size; simp; try omega) _).drew) hb8; have own14 := own_later own14 hb8))
      | (go_at_call 62; ((with_reducible refine (wire_List _ (s2.below (by first | exact hbc | exact hbc.drew | exact hbc.alloc hbc.size _ | exact (hbc.alloc hbc.size _).drew | exact ((hbc.alloc hbc.size _).alloc (by have := hbc.size; simp; try omega) _) | exact ((hbc.alloc hbc.size _).alloc (by have := hbc.size; simp; try omega) _).drew)) (by omega) D2.out L2.out HS2).mono ?_); rintro e w8 ⟨rfl, hb8⟩; have hbc := below_then (by first | exact hbc | exact hbc.drew | exact hbc.alloc hbc.size _ | exact (hbc.alloc hbc.size _).drew | exact ((hbc.alloc hbc.size _).alloc (by have := hbc.size; simp; try omega) _) | exact ((hbc.alloc hbc.size _).alloc (by have := hbc.size; simp; try omega) _).drew) hb8; have own14 := own_later own14 hb8))
      | (go_at_call 50; refine (wire_Put _ (Sl.of_own own15) (by omega) HPB.out).mono ?_; rintro e w9 ⟨v9, rfl, own16, hb9⟩; have hz15 := hbc.size; have hbc := below_then hbc hb9)
      | (have _tok := own14; refine step_append_any _ (by rfl) (.tmp 14) (.tmp 21) _ (by rfl) w1.heap.size 9 i0 (.string ByteArray.empty) 1 16 Try.underlying78 hi hz0 hz1 hz2 (by rfl) (by omega) (.slice A7 3 c7) 3 (strs [headerW, numS a, numS ra]) (by rfl) (own14.alloc _) _ 2 2 (strs [S1, S2]) (by rfl) (Sl.two_str (by go_simp) (by go_simp)) (strs_one _) (by unfold maxLen; omega) (by omega) (by have := hbc.size; simp; omega) ?_; intro v15 w15 hown15 hg15; have hbc : Below w1.heap.size w1 w15 := (hbc.alloc hbc.size _).grown hg15 (by have := hbc.size; simp; omega) (fun g hg' => (own14.lt g hg').1); have own15 : w15.ownsRow w1.heap.size 9 1 v15 5 (strs Tx) := (by rw [HT.out]; exact hown15); obtain ⟨A15, c15, rfl⟩ := own_slice own15)
      | (have _tok := hown6; refine step_append_any _ (by rfl) (.tmp 7) (.tmp 13) _ (by rfl) w1.heap.size 9 i0 (.string ByteArray.empty) 1 16 Try.underlying78 hi hz0 hz1 hz2 (by rfl) (by omega) _ 1 (strs [headerW]) (by rfl) (own_of_blk (base := w1.heap.size) (size := 1) (n := 1) (cs := #[.string ⟨#[104, 101, 97, 100, 101, 114]⟩]) (by first | exact k7 | exact Blk.new _ _ _) (by have := hbc.size; simp; try omega) rfl (by omega)) A6 2 c6 (strs ([a, ra].map numS)) (by rfl) (by first | exact Sl.of_own hown6 | exact (Sl.of_own hown6).alloc _) (strs_one _) (by unfold maxLen; omega) (by omega) (by have := hbc.size; simp; try omega) ?_; intro v7 w7 hown7 hg7; have own14 : w7.ownsRow w1.heap.size 9 1 v7 3 (strs [headerW, numS a, numS ra]) := hown7; obtain ⟨A7, c7, rfl⟩ := own_slice own14; have hbc : Below w1.heap.size w1 w7 := Below.grown (by first | exact hbc | exact hbc.drew | exact hbc.alloc hbc.size _ | exact (hbc.alloc hbc.size _).drew | exact ((hbc.alloc hbc.size _).alloc (by have := hbc.size; simp; try omega) _) | exact ((hbc.alloc hbc.size _).alloc (by have := hbc.size; simp; try omega) _).drew) hg7 (by have := hbc.size; simp; try omega) (fun g hg' => by have := hbc.size; simp [Value.ownBlock] at hg'; omega))
      | fail)))  | fail)
  all_goals
    have HBF := hide (hbw.trans (hbc.mono hbw.size))
    have hz9 := hbc.size
    have hzw := hbw.size
    rw [← HHB.out] at own16
    have OWF := hide (own_mono (base' := w.heap.size) own16 (by omega))
    go_wp2_with fail
    go_ret2
    exact ⟨_, rfl, OWF.out, HBF.out⟩
end Go.Proofs.Ytihpmaifcebpiaa
