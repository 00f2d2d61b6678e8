/-
  The walks of the laws of one kind of messages each: each calls only.
-/
import Derived.Test.YtebaojcfmkobjaaRealI
set_option linter.unusedVariables false
set_option linter.unusedSimpArgs false
namespace Go.Proofs.Ytebaojcfmkobjaa
open Go.RowKit

set_option maxRecDepth 100000 in
set_option maxHeartbeats 4000000 in
theorem walk_RealBatches (N : Int) (s : ScV) (ls : List Int) (xs : List (MsD × MsV)) (pb : List Bool) (who wch : List Int) (w : World) (HS : Hid (Scr w s ls xs pb who wch)) (HZ : Hid (ScZ s who wch)) {C : Array Value} (HC : Hid (C = scC N s)) :
    Calls Try.prog 6 #[.agg C] w fun e w' => e = .returned (.bool true) ∧ Below w.heap.size w w' := by

  go_enter Try.func6, Try.ntmps6
  refine act_off 5 [(0, .agg C)] (Frm.start rfl (by intro p hp; simp only [List.mem_cons, List.not_mem_nil, or_false] at hp; subst hp; rfl)) (fun a0 hM => ?_)
  have HB2 : Hid (Below w.heap.size w w) := Below.refl _ _
  refine region_then fun K3 QK3 hK3 => ?_
  refine s_alloc (e := 26) hM (.inl rfl) rfl rfl (V := fun g => .pointer (some ⟨g, 0, none⟩)) (ev_box hM rfl rfl) (fun g4 a10 w5 hM9 KB8_ hb6 hg7 => ?_)
  have KB8 := hide KB8_
  clear hM KB8_
  clear hg7
  have HB11 := hide (below_then HB2.out hb6)
  clear hb6 HB2
  have HB13 : Hid (Below w5.heap.size w5 w5) := Below.refl _ _
  refine s_val hM9 (.inl rfl) rfl rfl (ev_move (.inr rfl) rfl) (fun a15 hM14 => ?_)
  clear hM9
  refine seg_nil (hK3 _ _ ?_)
  clear hK3 K3 QK3
  have hM16 := hM14.cut1 (t1 := 1) rfl
  clear hM14
  refine region_then fun K17 QK17 hK17 => ?_
  refine s_val hM16 (.inl rfl) rfl rfl (ev_loadm rfl rfl (KB8.out.on HB13.out).rng Try.underlying26 rfl (by rw [HC.out]; exact info_scr)) (fun a19 hM18 => ?_)
  clear hM16
  refine s_call hM18 (.inl rfl) rfl rfl (f := 33) (args := #[.agg C, .int .i64 1]) (ev_call hM18 rfl rfl rfl (fun w => by simp [go_sem]) _) (law8_only 1 N s ls xs pb who wch _ (hide (HS.out.below HB11.out)) HZ HC) (fun e w20 hp => ?_)
  obtain ⟨rfl, hb21⟩ := hp
  refine ⟨_, rfl, fun a23 hM22 => ?_⟩
  clear hM18
  have HB24 := hide (below_then HB11.out hb21)
  have HB25 := hide (below_then HB13.out hb21)
  clear hb21 HB11 HB13
  refine s_val hM22 (.inl rfl) rfl rfl (ev_move (.inr rfl) rfl) (fun a27 hM26 => ?_)
  clear hM22
  refine seg_nil (hK17 _ _ ?_)
  clear hK17 K17 QK17
  have hM28 := hM26.cut1 (t1 := 2) rfl
  clear hM26
  refine wp_ret ?_
  repeat (with_reducible first | refine th_r ?_ | refine inb_r ?_ | refine js_r ?_)
  refine ret_of (t := 2) rfl hM28 rfl ?_
  exact ⟨rfl, HB24.out⟩

set_option maxRecDepth 100000 in
set_option maxHeartbeats 4000000 in
theorem walk_RealGives (N : Int) (s : ScV) (ls : List Int) (xs : List (MsD × MsV)) (pb : List Bool) (who wch : List Int) (w : World) (HS : Hid (Scr w s ls xs pb who wch)) (HZ : Hid (ScZ s who wch)) {C : Array Value} (HC : Hid (C = scC N s)) :
    Calls Try.prog 7 #[.agg C] w fun e w' => e = .returned (.bool true) ∧ Below w.heap.size w w' := by

  go_enter Try.func7, Try.ntmps7
  refine act_off 5 [(0, .agg C)] (Frm.start rfl (by intro p hp; simp only [List.mem_cons, List.not_mem_nil, or_false] at hp; subst hp; rfl)) (fun a0 hM => ?_)
  have HB2 : Hid (Below w.heap.size w w) := Below.refl _ _
  refine region_then fun K3 QK3 hK3 => ?_
  refine s_alloc (e := 26) hM (.inl rfl) rfl rfl (V := fun g => .pointer (some ⟨g, 0, none⟩)) (ev_box hM rfl rfl) (fun g4 a10 w5 hM9 KB8_ hb6 hg7 => ?_)
  have KB8 := hide KB8_
  clear hM KB8_
  clear hg7
  have HB11 := hide (below_then HB2.out hb6)
  clear hb6 HB2
  have HB13 : Hid (Below w5.heap.size w5 w5) := Below.refl _ _
  refine s_val hM9 (.inl rfl) rfl rfl (ev_move (.inr rfl) rfl) (fun a15 hM14 => ?_)
  clear hM9
  refine seg_nil (hK3 _ _ ?_)
  clear hK3 K3 QK3
  have hM16 := hM14.cut1 (t1 := 1) rfl
  clear hM14
  refine region_then fun K17 QK17 hK17 => ?_
  refine s_val hM16 (.inl rfl) rfl rfl (ev_loadm rfl rfl (KB8.out.on HB13.out).rng Try.underlying26 rfl (by rw [HC.out]; exact info_scr)) (fun a19 hM18 => ?_)
  clear hM16
  refine s_call hM18 (.inl rfl) rfl rfl (f := 33) (args := #[.agg C, .int .i64 3]) (ev_call hM18 rfl rfl rfl (fun w => by simp [go_sem]) _) (law8_only 3 N s ls xs pb who wch _ (hide (HS.out.below HB11.out)) HZ HC) (fun e w20 hp => ?_)
  obtain ⟨rfl, hb21⟩ := hp
  refine ⟨_, rfl, fun a23 hM22 => ?_⟩
  clear hM18
  have HB24 := hide (below_then HB11.out hb21)
  have HB25 := hide (below_then HB13.out hb21)
  clear hb21 HB11 HB13
  refine s_val hM22 (.inl rfl) rfl rfl (ev_move (.inr rfl) rfl) (fun a27 hM26 => ?_)
  clear hM22
  refine seg_nil (hK17 _ _ ?_)
  clear hK17 K17 QK17
  have hM28 := hM26.cut1 (t1 := 2) rfl
  clear hM26
  refine wp_ret ?_
  repeat (with_reducible first | refine th_r ?_ | refine inb_r ?_ | refine js_r ?_)
  refine ret_of (t := 2) rfl hM28 rfl ?_
  exact ⟨rfl, HB24.out⟩

set_option maxRecDepth 100000 in
set_option maxHeartbeats 4000000 in
theorem walk_RealTells (N : Int) (s : ScV) (ls : List Int) (xs : List (MsD × MsV)) (pb : List Bool) (who wch : List Int) (w : World) (HS : Hid (Scr w s ls xs pb who wch)) (HZ : Hid (ScZ s who wch)) {C : Array Value} (HC : Hid (C = scC N s)) :
    Calls Try.prog 8 #[.agg C] w fun e w' => e = .returned (.bool true) ∧ Below w.heap.size w w' := by

  go_enter Try.func8, Try.ntmps8
  refine act_off 5 [(0, .agg C)] (Frm.start rfl (by intro p hp; simp only [List.mem_cons, List.not_mem_nil, or_false] at hp; subst hp; rfl)) (fun a0 hM => ?_)
  have HB2 : Hid (Below w.heap.size w w) := Below.refl _ _
  refine region_then fun K3 QK3 hK3 => ?_
  refine s_alloc (e := 26) hM (.inl rfl) rfl rfl (V := fun g => .pointer (some ⟨g, 0, none⟩)) (ev_box hM rfl rfl) (fun g4 a10 w5 hM9 KB8_ hb6 hg7 => ?_)
  have KB8 := hide KB8_
  clear hM KB8_
  clear hg7
  have HB11 := hide (below_then HB2.out hb6)
  clear hb6 HB2
  have HB13 : Hid (Below w5.heap.size w5 w5) := Below.refl _ _
  refine s_val hM9 (.inl rfl) rfl rfl (ev_move (.inr rfl) rfl) (fun a15 hM14 => ?_)
  clear hM9
  refine seg_nil (hK3 _ _ ?_)
  clear hK3 K3 QK3
  have hM16 := hM14.cut1 (t1 := 1) rfl
  clear hM14
  refine region_then fun K17 QK17 hK17 => ?_
  refine s_val hM16 (.inl rfl) rfl rfl (ev_loadm rfl rfl (KB8.out.on HB13.out).rng Try.underlying26 rfl (by rw [HC.out]; exact info_scr)) (fun a19 hM18 => ?_)
  clear hM16
  refine s_call hM18 (.inl rfl) rfl rfl (f := 33) (args := #[.agg C, .int .i64 2]) (ev_call hM18 rfl rfl rfl (fun w => by simp [go_sem]) _) (law8_only 2 N s ls xs pb who wch _ (hide (HS.out.below HB11.out)) HZ HC) (fun e w20 hp => ?_)
  obtain ⟨rfl, hb21⟩ := hp
  refine ⟨_, rfl, fun a23 hM22 => ?_⟩
  clear hM18
  have HB24 := hide (below_then HB11.out hb21)
  have HB25 := hide (below_then HB13.out hb21)
  clear hb21 HB11 HB13
  refine s_val hM22 (.inl rfl) rfl rfl (ev_move (.inr rfl) rfl) (fun a27 hM26 => ?_)
  clear hM22
  refine seg_nil (hK17 _ _ ?_)
  clear hK17 K17 QK17
  have hM28 := hM26.cut1 (t1 := 2) rfl
  clear hM26
  refine wp_ret ?_
  repeat (with_reducible first | refine th_r ?_ | refine inb_r ?_ | refine js_r ?_)
  refine ret_of (t := 2) rfl hM28 rfl ?_
  exact ⟨rfl, HB24.out⟩

set_option maxRecDepth 100000 in
set_option maxHeartbeats 4000000 in
theorem walk_RealVotes (N : Int) (s : ScV) (ls : List Int) (xs : List (MsD × MsV)) (pb : List Bool) (who wch : List Int) (w : World) (HS : Hid (Scr w s ls xs pb who wch)) (HZ : Hid (ScZ s who wch)) {C : Array Value} (HC : Hid (C = scC N s)) :
    Calls Try.prog 9 #[.agg C] w fun e w' => e = .returned (.bool true) ∧ Below w.heap.size w w' := by

  go_enter Try.func9, Try.ntmps9
  refine act_off 5 [(0, .agg C)] (Frm.start rfl (by intro p hp; simp only [List.mem_cons, List.not_mem_nil, or_false] at hp; subst hp; rfl)) (fun a0 hM => ?_)
  have HB2 : Hid (Below w.heap.size w w) := Below.refl _ _
  refine region_then fun K3 QK3 hK3 => ?_
  refine s_alloc (e := 26) hM (.inl rfl) rfl rfl (V := fun g => .pointer (some ⟨g, 0, none⟩)) (ev_box hM rfl rfl) (fun g4 a10 w5 hM9 KB8_ hb6 hg7 => ?_)
  have KB8 := hide KB8_
  clear hM KB8_
  clear hg7
  have HB11 := hide (below_then HB2.out hb6)
  clear hb6 HB2
  have HB13 : Hid (Below w5.heap.size w5 w5) := Below.refl _ _
  refine s_val hM9 (.inl rfl) rfl rfl (ev_move (.inr rfl) rfl) (fun a15 hM14 => ?_)
  clear hM9
  refine seg_nil (hK3 _ _ ?_)
  clear hK3 K3 QK3
  have hM16 := hM14.cut1 (t1 := 1) rfl
  clear hM14
  refine region_then fun K17 QK17 hK17 => ?_
  refine s_val hM16 (.inl rfl) rfl rfl (ev_loadm rfl rfl (KB8.out.on HB13.out).rng Try.underlying26 rfl (by rw [HC.out]; exact info_scr)) (fun a19 hM18 => ?_)
  clear hM16
  refine s_call hM18 (.inl rfl) rfl rfl (f := 33) (args := #[.agg C, .int .i64 5]) (ev_call hM18 rfl rfl rfl (fun w => by simp [go_sem]) _) (law8_only 5 N s ls xs pb who wch _ (hide (HS.out.below HB11.out)) HZ HC) (fun e w20 hp => ?_)
  obtain ⟨rfl, hb21⟩ := hp
  refine ⟨_, rfl, fun a23 hM22 => ?_⟩
  clear hM18
  have HB24 := hide (below_then HB11.out hb21)
  have HB25 := hide (below_then HB13.out hb21)
  clear hb21 HB11 HB13
  refine s_val hM22 (.inl rfl) rfl rfl (ev_move (.inr rfl) rfl) (fun a27 hM26 => ?_)
  clear hM22
  refine seg_nil (hK17 _ _ ?_)
  clear hK17 K17 QK17
  have hM28 := hM26.cut1 (t1 := 2) rfl
  clear hM26
  refine wp_ret ?_
  repeat (with_reducible first | refine th_r ?_ | refine inb_r ?_ | refine js_r ?_)
  refine ret_of (t := 2) rfl hM28 rfl ?_
  exact ⟨rfl, HB24.out⟩

set_option maxRecDepth 100000 in
set_option maxHeartbeats 4000000 in
theorem walk_RealHeaders (N : Int) (s : ScV) (ls : List Int) (xs : List (MsD × MsV)) (pb : List Bool) (who wch : List Int) (w : World) (HS : Hid (Scr w s ls xs pb who wch)) (HZ : Hid (ScZ s who wch)) {C : Array Value} (HC : Hid (C = scC N s)) :
    Calls Try.prog 10 #[.agg C] w fun e w' => e = .returned (.bool true) ∧ Below w.heap.size w w' := by

  go_enter Try.func10, Try.ntmps10
  refine act_off 5 [(0, .agg C)] (Frm.start rfl (by intro p hp; simp only [List.mem_cons, List.not_mem_nil, or_false] at hp; subst hp; rfl)) (fun a0 hM => ?_)
  have HB2 : Hid (Below w.heap.size w w) := Below.refl _ _
  refine region_then fun K3 QK3 hK3 => ?_
  refine s_alloc (e := 26) hM (.inl rfl) rfl rfl (V := fun g => .pointer (some ⟨g, 0, none⟩)) (ev_box hM rfl rfl) (fun g4 a10 w5 hM9 KB8_ hb6 hg7 => ?_)
  have KB8 := hide KB8_
  clear hM KB8_
  clear hg7
  have HB11 := hide (below_then HB2.out hb6)
  clear hb6 HB2
  have HB13 : Hid (Below w5.heap.size w5 w5) := Below.refl _ _
  refine s_val hM9 (.inl rfl) rfl rfl (ev_move (.inr rfl) rfl) (fun a15 hM14 => ?_)
  clear hM9
  refine seg_nil (hK3 _ _ ?_)
  clear hK3 K3 QK3
  have hM16 := hM14.cut1 (t1 := 1) rfl
  clear hM14
  refine region_then fun K17 QK17 hK17 => ?_
  refine s_val hM16 (.inl rfl) rfl rfl (ev_loadm rfl rfl (KB8.out.on HB13.out).rng Try.underlying26 rfl (by rw [HC.out]; exact info_scr)) (fun a19 hM18 => ?_)
  clear hM16
  refine s_call hM18 (.inl rfl) rfl rfl (f := 33) (args := #[.agg C, .int .i64 4]) (ev_call hM18 rfl rfl rfl (fun w => by simp [go_sem]) _) (law8_only 4 N s ls xs pb who wch _ (hide (HS.out.below HB11.out)) HZ HC) (fun e w20 hp => ?_)
  obtain ⟨rfl, hb21⟩ := hp
  refine ⟨_, rfl, fun a23 hM22 => ?_⟩
  clear hM18
  have HB24 := hide (below_then HB11.out hb21)
  have HB25 := hide (below_then HB13.out hb21)
  clear hb21 HB11 HB13
  refine s_val hM22 (.inl rfl) rfl rfl (ev_move (.inr rfl) rfl) (fun a27 hM26 => ?_)
  clear hM22
  refine seg_nil (hK17 _ _ ?_)
  clear hK17 K17 QK17
  have hM28 := hM26.cut1 (t1 := 2) rfl
  clear hM26
  refine wp_ret ?_
  repeat (with_reducible first | refine th_r ?_ | refine inb_r ?_ | refine js_r ?_)
  refine ret_of (t := 2) rfl hM28 rfl ?_
  exact ⟨rfl, HB24.out⟩

set_option maxRecDepth 100000 in
set_option maxHeartbeats 4000000 in
theorem walk_RealCerts (N : Int) (s : ScV) (ls : List Int) (xs : List (MsD × MsV)) (pb : List Bool) (who wch : List Int) (w : World) (HS : Hid (Scr w s ls xs pb who wch)) (HZ : Hid (ScZ s who wch)) {C : Array Value} (HC : Hid (C = scC N s)) :
    Calls Try.prog 11 #[.agg C] w fun e w' => e = .returned (.bool true) ∧ Below w.heap.size w w' := by

  go_enter Try.func11, Try.ntmps11
  refine act_off 5 [(0, .agg C)] (Frm.start rfl (by intro p hp; simp only [List.mem_cons, List.not_mem_nil, or_false] at hp; subst hp; rfl)) (fun a0 hM => ?_)
  have HB2 : Hid (Below w.heap.size w w) := Below.refl _ _
  refine region_then fun K3 QK3 hK3 => ?_
  refine s_alloc (e := 26) hM (.inl rfl) rfl rfl (V := fun g => .pointer (some ⟨g, 0, none⟩)) (ev_box hM rfl rfl) (fun g4 a10 w5 hM9 KB8_ hb6 hg7 => ?_)
  have KB8 := hide KB8_
  clear hM KB8_
  clear hg7
  have HB11 := hide (below_then HB2.out hb6)
  clear hb6 HB2
  have HB13 : Hid (Below w5.heap.size w5 w5) := Below.refl _ _
  refine s_val hM9 (.inl rfl) rfl rfl (ev_move (.inr rfl) rfl) (fun a15 hM14 => ?_)
  clear hM9
  refine seg_nil (hK3 _ _ ?_)
  clear hK3 K3 QK3
  have hM16 := hM14.cut1 (t1 := 1) rfl
  clear hM14
  refine region_then fun K17 QK17 hK17 => ?_
  refine s_val hM16 (.inl rfl) rfl rfl (ev_loadm rfl rfl (KB8.out.on HB13.out).rng Try.underlying26 rfl (by rw [HC.out]; exact info_scr)) (fun a19 hM18 => ?_)
  clear hM16
  refine s_call hM18 (.inl rfl) rfl rfl (f := 33) (args := #[.agg C, .int .i64 6]) (ev_call hM18 rfl rfl rfl (fun w => by simp [go_sem]) _) (law8_only 6 N s ls xs pb who wch _ (hide (HS.out.below HB11.out)) HZ HC) (fun e w20 hp => ?_)
  obtain ⟨rfl, hb21⟩ := hp
  refine ⟨_, rfl, fun a23 hM22 => ?_⟩
  clear hM18
  have HB24 := hide (below_then HB11.out hb21)
  have HB25 := hide (below_then HB13.out hb21)
  clear hb21 HB11 HB13
  refine s_val hM22 (.inl rfl) rfl rfl (ev_move (.inr rfl) rfl) (fun a27 hM26 => ?_)
  clear hM22
  refine seg_nil (hK17 _ _ ?_)
  clear hK17 K17 QK17
  have hM28 := hM26.cut1 (t1 := 2) rfl
  clear hM26
  refine wp_ret ?_
  repeat (with_reducible first | refine th_r ?_ | refine inb_r ?_ | refine js_r ?_)
  refine ret_of (t := 2) rfl hM28 rfl ?_
  exact ⟨rfl, HB24.out⟩

set_option maxRecDepth 100000 in
set_option maxHeartbeats 4000000 in
theorem walk_RealWants (N : Int) (s : ScV) (ls : List Int) (xs : List (MsD × MsV)) (pb : List Bool) (who wch : List Int) (w : World) (HS : Hid (Scr w s ls xs pb who wch)) (HZ : Hid (ScZ s who wch)) {C : Array Value} (HC : Hid (C = scC N s)) :
    Calls Try.prog 12 #[.agg C] w fun e w' => e = .returned (.bool true) ∧ Below w.heap.size w w' := by

  go_enter Try.func12, Try.ntmps12
  refine act_off 5 [(0, .agg C)] (Frm.start rfl (by intro p hp; simp only [List.mem_cons, List.not_mem_nil, or_false] at hp; subst hp; rfl)) (fun a0 hM => ?_)
  have HB2 : Hid (Below w.heap.size w w) := Below.refl _ _
  refine region_then fun K3 QK3 hK3 => ?_
  refine s_alloc (e := 26) hM (.inl rfl) rfl rfl (V := fun g => .pointer (some ⟨g, 0, none⟩)) (ev_box hM rfl rfl) (fun g4 a10 w5 hM9 KB8_ hb6 hg7 => ?_)
  have KB8 := hide KB8_
  clear hM KB8_
  clear hg7
  have HB11 := hide (below_then HB2.out hb6)
  clear hb6 HB2
  have HB13 : Hid (Below w5.heap.size w5 w5) := Below.refl _ _
  refine s_val hM9 (.inl rfl) rfl rfl (ev_move (.inr rfl) rfl) (fun a15 hM14 => ?_)
  clear hM9
  refine seg_nil (hK3 _ _ ?_)
  clear hK3 K3 QK3
  have hM16 := hM14.cut1 (t1 := 1) rfl
  clear hM14
  refine region_then fun K17 QK17 hK17 => ?_
  refine s_val hM16 (.inl rfl) rfl rfl (ev_loadm rfl rfl (KB8.out.on HB13.out).rng Try.underlying26 rfl (by rw [HC.out]; exact info_scr)) (fun a19 hM18 => ?_)
  clear hM16
  refine s_call hM18 (.inl rfl) rfl rfl (f := 33) (args := #[.agg C, .int .i64 7]) (ev_call hM18 rfl rfl rfl (fun w => by simp [go_sem]) _) (law8_only 7 N s ls xs pb who wch _ (hide (HS.out.below HB11.out)) HZ HC) (fun e w20 hp => ?_)
  obtain ⟨rfl, hb21⟩ := hp
  refine ⟨_, rfl, fun a23 hM22 => ?_⟩
  clear hM18
  have HB24 := hide (below_then HB11.out hb21)
  have HB25 := hide (below_then HB13.out hb21)
  clear hb21 HB11 HB13
  refine s_val hM22 (.inl rfl) rfl rfl (ev_move (.inr rfl) rfl) (fun a27 hM26 => ?_)
  clear hM22
  refine seg_nil (hK17 _ _ ?_)
  clear hK17 K17 QK17
  have hM28 := hM26.cut1 (t1 := 2) rfl
  clear hM26
  refine wp_ret ?_
  repeat (with_reducible first | refine th_r ?_ | refine inb_r ?_ | refine js_r ?_)
  refine ret_of (t := 2) rfl hM28 rfl ?_
  exact ⟨rfl, HB24.out⟩

set_option maxRecDepth 100000 in
set_option maxHeartbeats 4000000 in
theorem walk_RealSeeks (N : Int) (s : ScV) (ls : List Int) (xs : List (MsD × MsV)) (pb : List Bool) (who wch : List Int) (w : World) (HS : Hid (Scr w s ls xs pb who wch)) (HZ : Hid (ScZ s who wch)) {C : Array Value} (HC : Hid (C = scC N s)) :
    Calls Try.prog 13 #[.agg C] w fun e w' => e = .returned (.bool true) ∧ Below w.heap.size w w' := by

  go_enter Try.func13, Try.ntmps13
  refine act_off 5 [(0, .agg C)] (Frm.start rfl (by intro p hp; simp only [List.mem_cons, List.not_mem_nil, or_false] at hp; subst hp; rfl)) (fun a0 hM => ?_)
  have HB2 : Hid (Below w.heap.size w w) := Below.refl _ _
  refine region_then fun K3 QK3 hK3 => ?_
  refine s_alloc (e := 26) hM (.inl rfl) rfl rfl (V := fun g => .pointer (some ⟨g, 0, none⟩)) (ev_box hM rfl rfl) (fun g4 a10 w5 hM9 KB8_ hb6 hg7 => ?_)
  have KB8 := hide KB8_
  clear hM KB8_
  clear hg7
  have HB11 := hide (below_then HB2.out hb6)
  clear hb6 HB2
  have HB13 : Hid (Below w5.heap.size w5 w5) := Below.refl _ _
  refine s_val hM9 (.inl rfl) rfl rfl (ev_move (.inr rfl) rfl) (fun a15 hM14 => ?_)
  clear hM9
  refine seg_nil (hK3 _ _ ?_)
  clear hK3 K3 QK3
  have hM16 := hM14.cut1 (t1 := 1) rfl
  clear hM14
  refine region_then fun K17 QK17 hK17 => ?_
  refine s_val hM16 (.inl rfl) rfl rfl (ev_loadm rfl rfl (KB8.out.on HB13.out).rng Try.underlying26 rfl (by rw [HC.out]; exact info_scr)) (fun a19 hM18 => ?_)
  clear hM16
  refine s_call hM18 (.inl rfl) rfl rfl (f := 33) (args := #[.agg C, .int .i64 8]) (ev_call hM18 rfl rfl rfl (fun w => by simp [go_sem]) _) (law8_only 8 N s ls xs pb who wch _ (hide (HS.out.below HB11.out)) HZ HC) (fun e w20 hp => ?_)
  obtain ⟨rfl, hb21⟩ := hp
  refine ⟨_, rfl, fun a23 hM22 => ?_⟩
  clear hM18
  have HB24 := hide (below_then HB11.out hb21)
  have HB25 := hide (below_then HB13.out hb21)
  clear hb21 HB11 HB13
  refine s_val hM22 (.inl rfl) rfl rfl (ev_move (.inr rfl) rfl) (fun a27 hM26 => ?_)
  clear hM22
  refine seg_nil (hK17 _ _ ?_)
  clear hK17 K17 QK17
  have hM28 := hM26.cut1 (t1 := 2) rfl
  clear hM26
  refine wp_ret ?_
  repeat (with_reducible first | refine th_r ?_ | refine inb_r ?_ | refine js_r ?_)
  refine ret_of (t := 2) rfl hM28 rfl ?_
  exact ⟨rfl, HB24.out⟩
end Go.Proofs.Ytebaojcfmkobjaa
