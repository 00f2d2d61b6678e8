/-
  The walk of NetFull: whatever the acts, the call answers true and changes nothing that was there.
-/
import Derived.Test.YtflamhndmggiaaaGr14
set_option linter.unusedVariables false
set_option linter.unusedSimpArgs false
namespace Go.Proofs.Ytflamhndmggiaaa
open Go.RowKit

def byJ (j : Nat) : List UInt8 := [UInt8.ofNat j]
def bl (j : Nat) : List (List UInt8) := (List.range j).map byJ
theorem bl_len (j : Nat) : (bl j).length = j := by simp [bl]
theorem bl_succ (j : Nat) : bl (j + 1) = bl j ++ [byJ j] := by simp [bl, List.range_succ]
def SF (L : List (List UInt8)) : (Int × Int → List (List UInt8)) := updF (fun _ => []) (3, 4) L
theorem SF_0 : SF [] = fun _ => [] := by
  funext q
  unfold SF updF
  split <;> rfl
theorem SF_at {L : List (List UInt8)} : SF L (3, 4) = L := updF_self
theorem SF_upd {L L' : List (List UInt8)} : updF (SF L) (3, 4) L' = SF L' := by
  funext q
  unfold SF updF
  split <;> rfl
def SG (L M : List (List UInt8)) : (Int × Int → List (List UInt8)) := updF (SF L) (4, 3) M
theorem SG_34 {L M : List (List UInt8)} : SG L M (3, 4) = L := by
  unfold SG
  rw [updF_ne (by decide)]
  exact updF_self
theorem SG_43 {L M : List (List UInt8)} : SG L M (4, 3) = M := updF_self
theorem SF_43 {L : List (List UInt8)} : SF L (4, 3) = [] := updF_ne (by decide)
theorem SG_up {L L' M : List (List UInt8)} : updF (SG L M) (3, 4) L' = SG L' M := by
  funext q
  unfold SG SF updF
  by_cases h1 : q = (3, 4)
  · subst h1; rfl
  · rw [if_neg h1]
    by_cases h2 : q = (4, 3)
    · rw [if_pos h2, if_pos h2]
    · rw [if_neg h2, if_neg h2, if_neg h1, if_neg h1]
theorem nw_CountN {w0 w : World} {g : Nat} {S : Int × Int → List (List UInt8)} (a b : Int) (h : NtW w0 w g S) {k : Nat} (hk : (S (a, b)).length = k) : Calls Try.prog 45 #[.pointer (some ⟨g, 0, none⟩), .int .i64 a, .int .i64 b] w fun e w' => e = .returned (.int .i64 (k : Int)) ∧ w = w' := by
  have := nw_Count a b h
  rw [hk] at this
  exact this
theorem ev_conv8j {P : Program} {M : List (Nat × Value)} {o : Oper} {w : World} {s d : TypeId} {x : Operand} {j : Nat} (ho : o.op = .convert s d x) (hx : opv M x = some (.int .i64 (j : Int))) (hs : P.underlying s = some (.int .i64)) (hd : P.underlying d = some (.int .u8)) : Ev P M o w (.int .u8 ((UInt8.ofNat j).toNat : Int)) := fun a n hM => by
  have e2 : IntKind.u8.wrap (j : Int) = ((UInt8.ofNat j).toNat : Int) := by
    rw [IntKind.wrap_u8, UInt8.toNat_ofNat']
    omega
  simp only [execOp, ho, hM.evo hx]
  simp [convert, Sem.run_bind, run_underlying hs, run_underlying hd, go_sem, e2]
set_option maxRecDepth 100000 in
set_option maxHeartbeats 4000000 in
theorem walk_NetFull {v : Value} {w : World} (ho : ∃ A n c, v = .slice A n c ∧ Acts12 w A n) :
    Calls Try.prog 9 #[v] w fun r w' => r = .returned (.bool true) ∧ Below w.heap.size w w' := by
  obtain ⟨A, n, c, rfl, hn, _⟩ := ho
  go_enter Try.func9, Try.ntmps9
  refine act_off 104 [(0, .slice A n c)] (Frm.start rfl (by intro p hp; simp only [List.mem_cons, List.not_mem_nil, or_false] at hp; subst hp; rfl)) (fun a0 hM => ?_)
  have HB2 : Hid (Below w.heap.size w w) := Below.refl _ _
  refine region_then fun K3 QK3 hK3 => ?_
  refine s_val hM (.inl rfl) rfl rfl (ev_move (.inr rfl) rfl) (fun a5 hM4 => ?_)
  clear hM
  refine seg_nil (hK3 _ _ ?_)
  clear hK3 K3 QK3
  have hM6 := hM4.cut2 (t1 := 0) (t2 := 2) rfl rfl
  clear hM4
  refine region_then fun K7 QK7 hK7 => ?_
  refine s_call hM6 (.inl rfl) rfl rfl (f := 41) (args := #[]) (ev_call hM6 rfl rfl rfl (fun w => by simp [go_sem]) _) (nw_New _) (fun e w8 hp => ?_)
  obtain ⟨g, rfl, hN⟩ := hp
  have HN := hide hN
  clear hN HB2
  have HB13 : Hid (Below w8.heap.size w8 w8) := Below.refl _ _
  refine ⟨_, rfl, fun a11 hM10 => ?_⟩
  clear hM6
  refine s_val hM10 (.inl rfl) rfl rfl (ev_move (.inr rfl) rfl) (fun a15 hM14 => ?_)
  clear hM10
  refine seg_nil (hK7 _ _ ?_)
  clear hK7 K7 QK7
  have hM16 := hM14.cut3 (t1 := 0) (t2 := 2) (t3 := 3) rfl rfl rfl
  clear hM14
  refine wp_seq_k fun K17 hK17 => ?_
  refine region_then fun K18 QK18 hK18 => ?_
  refine s_val hM16 (.inl rfl) rfl rfl (ev_move (.inl rfl) rfl) (fun a20 hM19 => ?_)
  clear hM16
  refine s_val hM19 (.inl rfl) rfl rfl (ev_ptrnil rfl rfl (u_ptr (by kernel_rfl)) g_ptr) (fun a22 hM21 => ?_)
  clear hM19
  refine seg_nil (hK18 _ _ ?_)
  clear hK18 K18 QK18
  have hM23 := hM21.cut4 (t1 := 0) (t2 := 2) (t3 := 3) (t4 := 11) rfl rfl rfl rfl
  clear hM21
  refine wp_cond_false (hM23.ev (t := 11) rfl) ?_
  refine wp_skip ?_
  refine hK17 _ _ ?_
  refine wp_seq_k fun K24 hK24 => ?_
  refine region_then fun K25 QK25 hK25 => ?_
  refine s_val hM23 (.inl rfl) rfl rfl (ev_move (.inr rfl) rfl) (fun a27 hM26 => ?_)
  clear hM23
  refine seg_nil (hK25 _ _ ?_)
  clear hK25 K25 QK25
  have hM28 := hM26.cut4 (t1 := 0) (t2 := 2) (t3 := 3) (t4 := 4) rfl rfl rfl rfl
  clear hM26
  have HN0 : Hid (NtW w w8 g (SF (bl 0))) := by
    have h := (HN.out.below HB13.out)
    rw [← SF_0] at h
    exact h
  have HJ : Hid (0 ≤ 1024) := Nat.zero_le _
  clear HN
  have HN := HN0
  clear HN0
  have hM29 := hM28.cut3 (t1 := 4) (t2 := 0) (t3 := 3) rfl rfl rfl
  clear hM28
  refine wp_block ?_
  refine wp_loop_ghost (fun m a w' => ∃ (j : Nat), m = 1024 - j ∧ Frm a 104 [(4, .int .i64 (j : Int)), (0, .slice A n c), (3, .pointer (some ⟨g, 0, none⟩))] ∧ Hid (NtW w w' g (SF (bl j))) ∧ Hid (j ≤ 1024)) 1024 ⟨0,  by omega, hM29, HN, HJ⟩ ?_
  clear HB13 hM29 HN HJ
  rintro m33 a31 w30 ⟨j, rfl, hM32, HN, HJ⟩
  have HB35 : Hid (Below w30.heap.size w30 w30) := Below.refl _ _
  refine wp_seq_k fun K36 hK36 => ?_
  by_cases hlt : j < 1024
  case pos =>
    refine region_then fun K37 QK37 hK37 => ?_
    refine s_val hM32 (.inl rfl) rfl rfl (ev_move (.inl rfl) rfl) (fun a39 hM38 => ?_)
    clear hM32
    refine s_val hM38 (.inl rfl) rfl rfl (ev_bin rfl rfl rfl g_int (b_lss (b := true) (by rw [decide_eq_true_eq]; omega))) (fun a41 hM40 => ?_)
    clear hM38
    refine seg_nil (hK37 _ _ ?_)
    clear hK37 K37 QK37
    have hM42 := hM40.cut4 (t1 := 0) (t2 := 3) (t3 := 4) (t4 := 13) rfl rfl rfl rfl
    clear hM40
    refine wp_cond_true (hM42.ev (t := 13) rfl) ?_
    refine wp_skip ?_
    refine hK36 _ _ ?_
    refine wp_seq_k fun K43 hK43 => ?_
    refine wp_block ?_
    refine region_then fun K44 QK44 hK44 => ?_
    refine s_val hM42 (.inl rfl) rfl rfl (ev_move (.inl rfl) rfl) (fun a46 hM45 => ?_)
    clear hM42
    refine s_val hM45 (.inl rfl) rfl rfl (ev_move (.inl rfl) rfl) (fun a48 hM47 => ?_)
    clear hM45
    refine s_val hM47 (.inl rfl) rfl rfl (ev_conv8j (j := j) rfl rfl Try.underlying3 Try.underlying5) (fun a50 hM49 => ?_)
    clear hM47
    refine s_alloc (e := 5) hM49 (.inl rfl) rfl rfl (V := fun g => .slice (some ⟨g, 0, none⟩) 1 1) (ev_bsl hM49 rfl rfl (fun w => by kernel_rfl)) (fun g51 a57 w52 hM56 KB55_ hb53 hg54 => ?_)
    have KB55 := hide KB55_
    clear hM49 KB55_
    clear hg54
    have HB58 := hide (below_then HB35.out hb53)
    clear hb53 HB35
    have HB60 : Hid (Below w52.heap.size w52 w52) := Below.refl _ _
    refine s_call hM56 (.inl rfl) rfl rfl (f := 43) (args := #[.pointer (some ⟨g, 0, none⟩), .int .i64 3, .int .i64 4, .slice ((some ⟨g51, 0, none⟩)) 1 1]) (ev_call hM56 rfl rfl rfl (fun w => by simp [go_sem]) _) (nw_Put_ok (x := byJ j) 3 4 (HN.out.below HB58.out) (by decide) (by rw [SF_at, bl_len]; exact hlt) (Sl.of_blk (size := 1) (n := 1) (KB55.out.on HB60.out) rfl) (by omega)) (fun e w61 hp => ?_)
    obtain ⟨rfl, hN⟩ := hp
    have HN_ : Hid (NtW w w61 g (SF (bl (j + 1)))) := by
      have h := hN
      rw [SF_at, SF_upd, ← bl_succ] at h
      exact h
    clear hN HN HB58 HB60 KB55
    have HN := HN_
    clear HN_
    have HB66 : Hid (Below w61.heap.size w61 w61) := Below.refl _ _
    refine ⟨_, rfl, fun a64 hM63 => ?_⟩
    clear hM56
    refine s_call hM63 (.inl rfl) rfl rfl (f := 42) (args := #[.int .i64 0]) (ev_call hM63 rfl rfl rfl (fun w => by simp [go_sem]) _) (law12_num _ _) (fun e w67 hp => ?_)
    obtain ⟨rfl, rfl⟩ := hp
    refine ⟨_, rfl, fun a70 hM69 => ?_⟩
    clear hM63
    refine s_val hM69 (.inl rfl) rfl rfl (ev_bin rfl rfl rfl g_int (b_neq (b := false) (by decide))) (fun a72 hM71 => ?_)
    clear hM69
    refine seg_nil (hK44 _ _ ?_)
    clear hK44 K44 QK44
    have hM73 := hM71.cut4 (t1 := 0) (t2 := 3) (t3 := 4) (t4 := 22) rfl rfl rfl rfl
    clear hM71
    refine wp_cond_false (hM73.ev (t := 22) rfl) ?_
    refine wp_skip ?_
    refine inb_n ?_
    refine hK43 _ _ ?_
    refine region_last fun K74 QK74 hK74 => ?_
    refine s_val hM73 (.inl rfl) rfl rfl (ev_move (.inl rfl) rfl) (fun a76 hM75 => ?_)
    clear hM73
    refine s_val hM75 (.inl rfl) rfl rfl (ev_bin rfl rfl rfl g_int (b_add (r := ((j + 1 : Nat) : Int)) (by omega) (by omega))) (fun a78 hM77 => ?_)
    clear hM75
    refine s_val hM77 (.inl rfl) rfl rfl (ev_move (.inr rfl) rfl) (fun a80 hM79 => ?_)
    clear hM77
    refine seg_nil (hK74 _ _ ?_)
    clear hK74 K74 QK74
    have hM81 := hM79.cut3 (t1 := 0) (t2 := 3) (t3 := 4) rfl rfl rfl
    clear hM79
    have hM82 := hM81.cut3 (t1 := 4) (t2 := 0) (t3 := 3) rfl rfl rfl
    clear hM81
    exact ⟨1024 - (j + 1), by omega, j + 1, rfl, hM82, (hide (HN.out.below HB66.out)), (show Hid (j + 1 ≤ 1024) from hlt)⟩
  case neg =>
    obtain rfl : j = 1024 := by have := HJ.out; omega
    refine region_then fun K83 QK83 hK83 => ?_
    refine s_val hM32 (.inl rfl) rfl rfl (ev_move (.inl rfl) rfl) (fun a85 hM84 => ?_)
    clear hM32
    refine s_val hM84 (.inl rfl) rfl rfl (ev_bin rfl rfl rfl g_int (b_lss (b := false) (by decide))) (fun a87 hM86 => ?_)
    clear hM84
    refine seg_nil (hK83 _ _ ?_)
    clear hK83 K83 QK83
    have hM88 := hM86.cut4 (t1 := 0) (t2 := 3) (t3 := 4) (t4 := 13) rfl rfl rfl rfl
    clear hM86
    refine wp_cond_false (hM88.ev (t := 13) rfl) ?_
    refine wp_exit ?_
    repeat (with_reducible refine th_e ?_)
    refine inb_e ?_
    refine hK24 _ _ ?_
    refine wp_seq_k fun K89 hK89 => ?_
    have HL := hide (bl_len 1024)
    have HAT : Hid ((bl 1024)[1023]? = some (byJ 1023)) := by unfold bl; rw [Hid, List.getElem?_map, List.getElem?_range (by decide)]; rfl
    generalize bl 1024 = L at HN HL HAT
    clear HJ hlt
    refine region_then fun K90 QK90 hK90 => ?_
    refine s_val hM88 (.inl rfl) rfl rfl (ev_move (.inl rfl) rfl) (fun a92 hM91 => ?_)
    clear hM88
    refine s_call hM91 (.inl rfl) rfl rfl (f := 43) (args := #[.pointer (some ⟨g, 0, none⟩), .int .i64 3, .int .i64 4, .slice none 0 0]) (ev_call hM91 rfl rfl rfl (fun w => by simp [go_sem]) _) (nb_Put_full 3 4 (HN.out.below HB35.out) (by decide) (by rw [SF_at]; exact HL.out)) (fun e w93 hp => ?_)
    obtain ⟨rfl, hb94⟩ := hp
    refine ⟨_, rfl, fun a96 hM95 => ?_⟩
    clear hM91
    have HB97 := hide (below_then HB35.out hb94)
    clear hb94 HB35
    refine s_call hM95 (.inl rfl) rfl rfl (f := 42) (args := #[.int .i64 8]) (ev_call hM95 rfl rfl rfl (fun w => by simp [go_sem]) _) (law12_num _ _) (fun e w98 hp => ?_)
    obtain ⟨rfl, rfl⟩ := hp
    refine ⟨_, rfl, fun a101 hM100 => ?_⟩
    clear hM95
    refine s_val hM100 (.inl rfl) rfl rfl (ev_bin rfl rfl rfl g_int (b_neq (b := false) (by decide))) (fun a103 hM102 => ?_)
    clear hM100
    refine s_val hM102 (.inl rfl) rfl rfl (ev_move (.inl rfl) rfl) (fun a105 hM104 => ?_)
    clear hM102
    refine s_val hM104 (.inr ⟨_, _, _, rfl, rfl, rfl⟩) rfl rfl (ev_move (.inl rfl) rfl) (fun a107 hM106 => ?_)
    clear hM104
    refine s_call hM106 (.inr ⟨_, _, _, rfl, rfl, rfl⟩) rfl rfl (f := 44) (args := #[.pointer (some ⟨g, 0, none⟩), .int .i64 3, .int .i64 4, .int .i64 5]) (ev_call hM106 rfl rfl rfl (fun w => by simp [go_sem]) _) (nb_Double_full (i := 5) 3 4 (HN.out.below HB97.out) (by rw [SF_at, HL.out]; decide) (by decide) (by rw [SF_at]; exact HL.out)) (fun e w108 hp => ?_)
    obtain ⟨rfl, hb109⟩ := hp
    refine ⟨_, rfl, fun a111 hM110 => ?_⟩
    clear hM106
    have HB112 := hide (below_then HB97.out hb109)
    clear hb109 HB97
    refine s_call hM110 (.inr ⟨_, _, _, rfl, rfl, rfl⟩) rfl rfl (f := 42) (args := #[.int .i64 8]) (ev_call hM110 rfl rfl rfl (fun w => by simp [go_sem]) _) (law12_num _ _) (fun e w113 hp => ?_)
    obtain ⟨rfl, rfl⟩ := hp
    refine ⟨_, rfl, fun a116 hM115 => ?_⟩
    clear hM110
    refine s_val hM115 (.inr ⟨_, _, _, rfl, rfl, rfl⟩) rfl rfl (ev_bin rfl rfl rfl g_int (b_neq (b := false) (by decide))) (fun a118 hM117 => ?_)
    clear hM115
    refine s_val hM117 (.inl rfl) rfl rfl (ev_pick rfl rfl rfl) (fun a120 hM119 => ?_)
    clear hM117
    refine s_val hM119 (.inl rfl) rfl rfl (ev_move (.inl rfl) rfl) (fun a122 hM121 => ?_)
    clear hM119
    refine s_val hM121 (.inr ⟨_, _, _, rfl, rfl, rfl⟩) rfl rfl (ev_move (.inl rfl) rfl) (fun a124 hM123 => ?_)
    clear hM121
    refine s_call hM123 (.inr ⟨_, _, _, rfl, rfl, rfl⟩) rfl rfl (f := 45) (args := #[.pointer (some ⟨g, 0, none⟩), .int .i64 3, .int .i64 4]) (ev_call hM123 rfl rfl rfl (fun w => by simp [go_sem]) _) (nw_CountN 3 4 (HN.out.below HB112.out) (k := 1024) (by rw [SF_at]; exact HL.out)) (fun e w125 hp => ?_)
    obtain ⟨rfl, rfl⟩ := hp
    refine ⟨_, rfl, fun a128 hM127 => ?_⟩
    clear hM123
    refine s_val hM127 (.inr ⟨_, _, _, rfl, rfl, rfl⟩) rfl rfl (ev_bin rfl rfl rfl g_int (b_neq (b := false) (by decide))) (fun a130 hM129 => ?_)
    clear hM127
    refine s_val hM129 (.inl rfl) rfl rfl (ev_pick rfl rfl rfl) (fun a132 hM131 => ?_)
    clear hM129
    refine s_val hM131 (.inl rfl) rfl rfl (ev_move (.inl rfl) rfl) (fun a134 hM133 => ?_)
    clear hM131
    refine s_val hM133 (.inr ⟨_, _, _, rfl, rfl, rfl⟩) rfl rfl (ev_move (.inl rfl) rfl) (fun a136 hM135 => ?_)
    clear hM133
    refine s_call hM135 (.inr ⟨_, _, _, rfl, rfl, rfl⟩) rfl rfl (f := 43) (args := #[.pointer (some ⟨g, 0, none⟩), .int .i64 4, .int .i64 3, .slice none 0 0]) (ev_call hM135 rfl rfl rfl (fun w => by simp [go_sem]) _) (nw_Put_ok (x := []) 4 3 (HN.out.below HB112.out) (by decide) (by rw [SF_43]; decide) Sl.nil_ (by decide)) (fun e w137 hp => ?_)
    obtain ⟨rfl, hN⟩ := hp
    have HN_ : Hid (NtW w w137 g (SG L [[]])) := by
      have h := hN
      rw [SF_43] at h
      exact h
    clear hN HN HB112 
    have HN := HN_
    clear HN_
    have HB142 : Hid (Below w137.heap.size w137 w137) := Below.refl _ _
    refine ⟨_, rfl, fun a140 hM139 => ?_⟩
    clear hM135
    refine s_call hM139 (.inr ⟨_, _, _, rfl, rfl, rfl⟩) rfl rfl (f := 42) (args := #[.int .i64 0]) (ev_call hM139 rfl rfl rfl (fun w => by simp [go_sem]) _) (law12_num _ _) (fun e w143 hp => ?_)
    obtain ⟨rfl, rfl⟩ := hp
    refine ⟨_, rfl, fun a146 hM145 => ?_⟩
    clear hM139
    refine s_val hM145 (.inr ⟨_, _, _, rfl, rfl, rfl⟩) rfl rfl (ev_bin rfl rfl rfl g_int (b_neq (b := false) (by decide))) (fun a148 hM147 => ?_)
    clear hM145
    refine s_val hM147 (.inl rfl) rfl rfl (ev_pick rfl rfl rfl) (fun a150 hM149 => ?_)
    clear hM147
    refine seg_nil (hK90 _ _ ?_)
    clear hK90 K90 QK90
    have hM151 := hM149.cut3 (t1 := 0) (t2 := 3) (t3 := 43) rfl rfl rfl
    clear hM149
    refine wp_cond_false (hM151.ev (t := 43) rfl) ?_
    refine wp_skip ?_
    refine hK89 _ _ ?_
    refine region_then fun K152 QK152 hK152 => ?_
    refine s_val hM151 (.inl rfl) rfl rfl (ev_move (.inl rfl) rfl) (fun a154 hM153 => ?_)
    clear hM151
    refine s_call hM153 (.inl rfl) rfl rfl (f := 46) (args := #[.pointer (some ⟨g, 0, none⟩), .int .i64 3, .int .i64 4, .int .i64 1023]) (ev_call hM153 rfl rfl rfl (fun w => by simp [go_sem]) _) (nw_Take_ok (i := 1023) (x := byJ 1023) 3 4 (HN.out.below HB142.out) (by rw [SG_34]; exact HAT.out)) (fun e w155 hp => ?_)
    obtain ⟨v1, rfl, ho, _, hN, _⟩ := hp
    obtain ⟨A1, c1, rfl⟩ := own_slice ho
    have HV := hide (Sl.of_own ho)
    clear ho
    have HN_ : Hid (NtW w w155 g (SG (L.eraseIdx 1023) [[]])) := by
      have h := hN
      rw [SG_34, SG_up] at h
      exact h
    clear hN HN HB142 
    have HN := HN_
    clear HN_
    have HB160 : Hid (Below w155.heap.size w155 w155) := Below.refl _ _
    refine ⟨_, rfl, fun a158 hM157 => ?_⟩
    clear hM153
    refine s_val hM157 (.inl rfl) rfl rfl (ev_move (.inl rfl) rfl) (fun a162 hM161 => ?_)
    clear hM157
    refine s_val hM161 (.inl rfl) rfl rfl (ev_ext (v := .slice A1 ((byJ 1023).length) c1) rfl rfl rfl) (fun a164 hM163 => ?_)
    clear hM161
    refine s_val hM163 (.inl rfl) rfl rfl (ev_ext (v := .int .i64 0) rfl rfl rfl) (fun a166 hM165 => ?_)
    clear hM163
    refine s_val hM165 (.inl rfl) rfl rfl (ev_move (.inr rfl) rfl) (fun a168 hM167 => ?_)
    clear hM165
    refine s_val hM167 (.inl rfl) rfl rfl (ev_move (.inr rfl) rfl) (fun a170 hM169 => ?_)
    clear hM167
    refine seg_nil (hK152 _ _ ?_)
    clear hK152 K152 QK152
    have hM171 := hM169.cut4 (t1 := 0) (t2 := 3) (t3 := 5) (t4 := 6) rfl rfl rfl rfl
    clear hM169
    have HL2 := hide (show (L.eraseIdx 1023).length = 1023 from by rw [List.length_eraseIdx_of_lt (by rw [HL.out]; decide), HL.out])
    generalize L.eraseIdx 1023 = L2 at HN HL2
    clear HL HAT
    obtain ⟨x0, hx0_⟩ : ∃ x0, L2[0]? = some x0 := ⟨_, List.getElem?_eq_getElem (by rw [HL2.out]; decide)⟩
    have hx0 := hide hx0_
    clear hx0_
    refine region_then fun K172 QK172 hK172 => ?_
    refine s_val hM171 (.inl rfl) rfl rfl (ev_move (.inl rfl) rfl) (fun a174 hM173 => ?_)
    clear hM171
    refine s_call hM173 (.inl rfl) rfl rfl (f := 46) (args := #[.pointer (some ⟨g, 0, none⟩), .int .i64 3, .int .i64 4, .int .i64 1023]) (ev_call hM173 rfl rfl rfl (fun w => by simp [go_sem]) _) (nb_Take_no 3 4 1023 (HN.out.below HB160.out) (.inr (by rw [SG_34, HL2.out]; decide))) (fun e w175 hp => ?_)
    obtain ⟨rfl, hb176⟩ := hp
    refine ⟨_, rfl, fun a178 hM177 => ?_⟩
    clear hM173
    have HB179 := hide (below_then HB160.out hb176)
    clear hb176 HB160
    refine s_val hM177 (.inl rfl) rfl rfl (ev_move (.inl rfl) rfl) (fun a181 hM180 => ?_)
    clear hM177
    refine s_val hM180 (.inl rfl) rfl rfl (ev_ext (v := .slice none 0 0) rfl rfl rfl) (fun a183 hM182 => ?_)
    clear hM180
    refine s_val hM182 (.inl rfl) rfl rfl (ev_ext (v := .int .i64 3) rfl rfl rfl) (fun a185 hM184 => ?_)
    clear hM182
    refine s_val hM184 (.inl rfl) rfl rfl (ev_move (.inr rfl) rfl) (fun a187 hM186 => ?_)
    clear hM184
    refine s_val hM186 (.inl rfl) rfl rfl (ev_move (.inr rfl) rfl) (fun a189 hM188 => ?_)
    clear hM186
    refine seg_nil (hK172 _ _ ?_)
    clear hK172 K172 QK172
    have hM190 := hM188.cut6 (t1 := 0) (t2 := 3) (t3 := 5) (t4 := 6) (t5 := 7) (t6 := 8) rfl rfl rfl rfl rfl rfl
    clear hM188
    refine wp_seq_k fun K191 hK191 => ?_
    refine region_then fun K192 QK192 hK192 => ?_
    refine s_val hM190 (.inl rfl) rfl rfl (ev_move (.inl rfl) rfl) (fun a194 hM193 => ?_)
    clear hM190
    refine s_call hM193 (.inl rfl) rfl rfl (f := 42) (args := #[.int .i64 0]) (ev_call hM193 rfl rfl rfl (fun w => by simp [go_sem]) _) (law12_num _ _) (fun e w195 hp => ?_)
    obtain ⟨rfl, rfl⟩ := hp
    refine ⟨_, rfl, fun a198 hM197 => ?_⟩
    clear hM193
    refine s_val hM197 (.inl rfl) rfl rfl (ev_bin rfl rfl rfl g_int (b_neq (b := false) (by decide))) (fun a200 hM199 => ?_)
    clear hM197
    refine s_val hM199 (.inl rfl) rfl rfl (ev_move (.inl rfl) rfl) (fun a202 hM201 => ?_)
    clear hM199
    refine s_val hM201 (.inr ⟨_, _, _, rfl, rfl, rfl⟩) rfl rfl (ev_move (.inl rfl) rfl) (fun a204 hM203 => ?_)
    clear hM201
    refine s_alloc (e := 5) hM203 (.inr ⟨_, _, _, rfl, rfl, rfl⟩) rfl rfl (V := fun g => .slice (some ⟨g, 0, none⟩) 1 1) (ev_bslice1 hM203 rfl (fun w => by kernel_rfl)) (fun g205 a211 w206 hM210 KB209_ hb207 hg208 => ?_)
    have KB209 := hide KB209_
    clear hM203 KB209_
    clear hg208
    have HB212 := hide (below_then HB179.out hb207)
    clear hb207 HB179
    have HB214 : Hid (Below w206.heap.size w206 w206) := Below.refl _ _
    refine s_call hM210 (.inr ⟨_, _, _, rfl, rfl, rfl⟩) rfl rfl (f := 26) (args := #[.slice A1 ((byJ 1023).length) c1, .slice ((some ⟨g205, 0, none⟩)) 1 1]) (ev_call hM210 rfl rfl rfl (fun w => by simp [go_sem]) _) (eqBytes_b (xs := byJ 1023) (ys := [255]) _ (HV.out.below HB212.out) (by decide) (Sl.of_blk (size := 1) (n := 1) (KB209.out.on HB214.out) rfl) (by decide) (r := true) (show (byJ 1023 == [255]) = true by decide)) (fun e w215 hp => ?_)
    obtain ⟨rfl, hb216⟩ := hp
    refine ⟨_, rfl, fun a218 hM217 => ?_⟩
    clear hM210
    have HB219 := hide (below_then HB212.out hb216)
    have HB220 := hide (below_then HB214.out hb216)
    clear hb216 HB212 HB214
    refine s_val hM217 (.inr ⟨_, _, _, rfl, rfl, rfl⟩) rfl rfl (ev_not rfl rfl rfl) (fun a222 hM221 => ?_)
    clear hM217
    refine s_val hM221 (.inl rfl) rfl rfl (ev_pick rfl rfl rfl) (fun a224 hM223 => ?_)
    clear hM221
    refine s_val hM223 (.inl rfl) rfl rfl (ev_move (.inl rfl) rfl) (fun a226 hM225 => ?_)
    clear hM223
    refine s_val hM225 (.inr ⟨_, _, _, rfl, rfl, rfl⟩) rfl rfl (ev_move (.inl rfl) rfl) (fun a228 hM227 => ?_)
    clear hM225
    refine s_call hM227 (.inr ⟨_, _, _, rfl, rfl, rfl⟩) rfl rfl (f := 42) (args := #[.int .i64 3]) (ev_call hM227 rfl rfl rfl (fun w => by simp [go_sem]) _) (law12_num _ _) (fun e w229 hp => ?_)
    obtain ⟨rfl, rfl⟩ := hp
    refine ⟨_, rfl, fun a232 hM231 => ?_⟩
    clear hM227
    refine s_val hM231 (.inr ⟨_, _, _, rfl, rfl, rfl⟩) rfl rfl (ev_bin rfl rfl rfl g_int (b_neq (b := false) (by decide))) (fun a234 hM233 => ?_)
    clear hM231
    refine s_val hM233 (.inl rfl) rfl rfl (ev_pick rfl rfl rfl) (fun a236 hM235 => ?_)
    clear hM233
    refine s_val hM235 (.inl rfl) rfl rfl (ev_move (.inl rfl) rfl) (fun a238 hM237 => ?_)
    clear hM235
    refine s_val hM237 (.inr ⟨_, _, _, rfl, rfl, rfl⟩) rfl rfl (ev_move (.inl rfl) rfl) (fun a240 hM239 => ?_)
    clear hM237
    refine s_call hM239 (.inr ⟨_, _, _, rfl, rfl, rfl⟩) rfl rfl (f := 44) (args := #[.pointer (some ⟨g, 0, none⟩), .int .i64 3, .int .i64 4, .int .i64 0]) (ev_call hM239 rfl rfl rfl (fun w => by simp [go_sem]) _) (nw_Double_ok (i := 0) 3 4 (HN.out.below HB219.out) (by rw [SG_34]; exact hx0.out) (by decide) (by rw [SG_34, HL2.out]; decide)) (fun e w241 hp => ?_)
    obtain ⟨rfl, hN⟩ := hp
    have HN_ : Hid (NtW w w241 g (SG (L2 ++ [x0]) [[]])) := by
      have h := hN
      rw [SG_34, SG_up] at h
      exact h
    clear hN HN HB219 HB220 KB209
    have HN := HN_
    clear HN_
    have HB246 : Hid (Below w241.heap.size w241 w241) := Below.refl _ _
    refine ⟨_, rfl, fun a244 hM243 => ?_⟩
    clear hM239
    refine s_call hM243 (.inr ⟨_, _, _, rfl, rfl, rfl⟩) rfl rfl (f := 42) (args := #[.int .i64 0]) (ev_call hM243 rfl rfl rfl (fun w => by simp [go_sem]) _) (law12_num _ _) (fun e w247 hp => ?_)
    obtain ⟨rfl, rfl⟩ := hp
    refine ⟨_, rfl, fun a250 hM249 => ?_⟩
    clear hM243
    refine s_val hM249 (.inr ⟨_, _, _, rfl, rfl, rfl⟩) rfl rfl (ev_bin rfl rfl rfl g_int (b_neq (b := false) (by decide))) (fun a252 hM251 => ?_)
    clear hM249
    refine s_val hM251 (.inl rfl) rfl rfl (ev_pick rfl rfl rfl) (fun a254 hM253 => ?_)
    clear hM251
    refine s_val hM253 (.inl rfl) rfl rfl (ev_move (.inl rfl) rfl) (fun a256 hM255 => ?_)
    clear hM253
    refine s_val hM255 (.inr ⟨_, _, _, rfl, rfl, rfl⟩) rfl rfl (ev_move (.inl rfl) rfl) (fun a258 hM257 => ?_)
    clear hM255
    refine s_call hM257 (.inr ⟨_, _, _, rfl, rfl, rfl⟩) rfl rfl (f := 43) (args := #[.pointer (some ⟨g, 0, none⟩), .int .i64 0, .int .i64 1, .slice none 0 0]) (ev_call hM257 rfl rfl rfl (fun w => by simp [go_sem]) _) (nb_Put_form 0 1 (HN.out.below HB246.out) (by decide)) (fun e w259 hp => ?_)
    obtain ⟨rfl, hb260⟩ := hp
    refine ⟨_, rfl, fun a262 hM261 => ?_⟩
    clear hM257
    have HB263 := hide (below_then HB246.out hb260)
    clear hb260 HB246
    refine s_call hM261 (.inr ⟨_, _, _, rfl, rfl, rfl⟩) rfl rfl (f := 42) (args := #[.int .i64 1]) (ev_call hM261 rfl rfl rfl (fun w => by simp [go_sem]) _) (law12_num _ _) (fun e w264 hp => ?_)
    obtain ⟨rfl, rfl⟩ := hp
    refine ⟨_, rfl, fun a267 hM266 => ?_⟩
    clear hM261
    refine s_val hM266 (.inr ⟨_, _, _, rfl, rfl, rfl⟩) rfl rfl (ev_bin rfl rfl rfl g_int (b_neq (b := false) (by decide))) (fun a269 hM268 => ?_)
    clear hM266
    refine s_val hM268 (.inl rfl) rfl rfl (ev_pick rfl rfl rfl) (fun a271 hM270 => ?_)
    clear hM268
    refine s_val hM270 (.inl rfl) rfl rfl (ev_move (.inl rfl) rfl) (fun a273 hM272 => ?_)
    clear hM270
    refine s_val hM272 (.inr ⟨_, _, _, rfl, rfl, rfl⟩) rfl rfl (ev_move (.inl rfl) rfl) (fun a275 hM274 => ?_)
    clear hM272
    refine s_call hM274 (.inr ⟨_, _, _, rfl, rfl, rfl⟩) rfl rfl (f := 43) (args := #[.pointer (some ⟨g, 0, none⟩), .int .i64 1, .int .i64 17, .slice none 0 0]) (ev_call hM274 rfl rfl rfl (fun w => by simp [go_sem]) _) (nb_Put_form 1 17 (HN.out.below HB263.out) (by decide)) (fun e w276 hp => ?_)
    obtain ⟨rfl, hb277⟩ := hp
    refine ⟨_, rfl, fun a279 hM278 => ?_⟩
    clear hM274
    have HB280 := hide (below_then HB263.out hb277)
    clear hb277 HB263
    refine s_call hM278 (.inr ⟨_, _, _, rfl, rfl, rfl⟩) rfl rfl (f := 42) (args := #[.int .i64 1]) (ev_call hM278 rfl rfl rfl (fun w => by simp [go_sem]) _) (law12_num _ _) (fun e w281 hp => ?_)
    obtain ⟨rfl, rfl⟩ := hp
    refine ⟨_, rfl, fun a284 hM283 => ?_⟩
    clear hM278
    refine s_val hM283 (.inr ⟨_, _, _, rfl, rfl, rfl⟩) rfl rfl (ev_bin rfl rfl rfl g_int (b_neq (b := false) (by decide))) (fun a286 hM285 => ?_)
    clear hM283
    refine s_val hM285 (.inl rfl) rfl rfl (ev_pick rfl rfl rfl) (fun a288 hM287 => ?_)
    clear hM285
    refine seg_nil (hK192 _ _ ?_)
    clear hK192 K192 QK192
    have hM289 := hM287.cut3 (t1 := 0) (t2 := 3) (t3 := 85) rfl rfl rfl
    clear hM287
    refine wp_cond_false (hM289.ev (t := 85) rfl) ?_
    refine wp_skip ?_
    refine hK191 _ _ ?_
    refine region_then fun K290 QK290 hK290 => ?_
    refine s_val hM289 (.inl rfl) rfl rfl (ev_move (.inl rfl) rfl) (fun a292 hM291 => ?_)
    clear hM289
    refine s_call hM291 (.inl rfl) rfl rfl (f := 50) (args := #[.pointer (some ⟨g, 0, none⟩), .int .i64 4]) (ev_call hM291 rfl rfl rfl (fun w => by simp [go_sem]) _) (nw_Clear 4 (HN.out.below HB280.out)) (fun e w293 hp => ?_)
    obtain ⟨rfl, hN⟩ := hp
    clear HL2
    have HN_ : Hid (NtW w w293 g (clrS 4 (SG (L2 ++ [x0]) [[]]))) := hide hN
    clear hN HN HB280 
    have HN := HN_
    clear HN_
    have HB298 : Hid (Below w293.heap.size w293 w293) := Below.refl _ _
    refine ⟨_, rfl, fun a296 hM295 => ?_⟩
    clear hM291
    refine seg_nil (hK290 _ _ ?_)
    clear hK290 K290 QK290
    have hM299 := hM295.cut2 (t1 := 0) (t2 := 3) rfl rfl
    clear hM295
    refine region_then fun K300 QK300 hK300 => ?_
    refine s_val hM299 (.inl rfl) rfl rfl (ev_move (.inl rfl) rfl) (fun a302 hM301 => ?_)
    clear hM299
    refine s_call hM301 (.inl rfl) rfl rfl (f := 45) (args := #[.pointer (some ⟨g, 0, none⟩), .int .i64 3, .int .i64 4]) (ev_call hM301 rfl rfl rfl (fun w => by simp [go_sem]) _) (nw_CountN 3 4 (HN.out.below HB298.out) (k := 0) (by unfold clrS; rw [if_pos (by decide)]; rfl)) (fun e w303 hp => ?_)
    obtain ⟨rfl, rfl⟩ := hp
    refine ⟨_, rfl, fun a306 hM305 => ?_⟩
    clear hM301
    refine s_val hM305 (.inl rfl) rfl rfl (ev_bin rfl rfl rfl g_int (b_eql (b := true) (by decide))) (fun a308 hM307 => ?_)
    clear hM305
    refine s_val hM307 (.inl rfl) rfl rfl (ev_move (.inl rfl) rfl) (fun a310 hM309 => ?_)
    clear hM307
    refine s_val hM309 (.inr ⟨_, _, _, rfl, rfl, rfl⟩) rfl rfl (ev_move (.inl rfl) rfl) (fun a312 hM311 => ?_)
    clear hM309
    refine s_call hM311 (.inr ⟨_, _, _, rfl, rfl, rfl⟩) rfl rfl (f := 45) (args := #[.pointer (some ⟨g, 0, none⟩), .int .i64 4, .int .i64 3]) (ev_call hM311 rfl rfl rfl (fun w => by simp [go_sem]) _) (nw_CountN 4 3 (HN.out.below HB298.out) (k := 1) (by unfold clrS; rw [if_neg (by decide), SG_43]; rfl)) (fun e w313 hp => ?_)
    obtain ⟨rfl, rfl⟩ := hp
    refine ⟨_, rfl, fun a316 hM315 => ?_⟩
    clear hM311
    refine s_val hM315 (.inr ⟨_, _, _, rfl, rfl, rfl⟩) rfl rfl (ev_bin rfl rfl rfl g_int (b_eql (b := true) (by decide))) (fun a318 hM317 => ?_)
    clear hM315
    refine s_val hM317 (.inl rfl) rfl rfl (ev_pick rfl rfl rfl) (fun a320 hM319 => ?_)
    clear hM317
    refine s_val hM319 (.inl rfl) rfl rfl (ev_move (.inl rfl) rfl) (fun a322 hM321 => ?_)
    clear hM319
    refine s_val hM321 (.inr ⟨_, _, _, rfl, rfl, rfl⟩) rfl rfl (ev_move (.inl rfl) rfl) (fun a324 hM323 => ?_)
    clear hM321
    refine s_val hM323 (.inr ⟨_, _, _, rfl, rfl, rfl⟩) rfl rfl (ev_len rfl rfl Try.underlying62) (fun a326 hM325 => ?_)
    clear hM323
    refine s_val hM325 (.inr ⟨_, _, _, rfl, rfl, rfl⟩) rfl rfl (ev_bin rfl rfl rfl g_int (b_geq (b := true) (by rw [decide_eq_true_eq]; omega))) (fun a328 hM327 => ?_)
    clear hM325
    refine s_val hM327 (.inl rfl) rfl rfl (ev_pick rfl rfl rfl) (fun a330 hM329 => ?_)
    clear hM327
    refine s_val hM329 (.inl rfl) rfl rfl (ev_move (.inl rfl) rfl) (fun a332 hM331 => ?_)
    clear hM329
    refine s_call hM331 (.inr ⟨_, _, _, rfl, rfl, rfl⟩) rfl rfl (f := 47) (args := #[]) (ev_call hM331 rfl rfl rfl (fun w => by simp [go_sem]) _) (law12_wakes _) (fun e w333 hp => ?_)
    obtain ⟨rfl, hb334⟩ := hp
    refine ⟨_, rfl, fun a336 hM335 => ?_⟩
    clear hM331
    have HB337 := hide (below_then HB298.out hb334)
    clear hb334 HB298
    refine s_val hM335 (.inl rfl) rfl rfl (ev_pick rfl rfl rfl) (fun a339 hM338 => ?_)
    clear hM335
    refine s_val hM338 (.inl rfl) rfl rfl (ev_move (.inr rfl) rfl) (fun a341 hM340 => ?_)
    clear hM338
    refine seg_nil (hK300 _ _ ?_)
    clear hK300 K300 QK300
    have hM342 := hM340.cut1 (t1 := 2) rfl
    clear hM340
    refine wp_ret ?_
    repeat (with_reducible first | refine th_r ?_ | refine inb_r ?_ | refine js_r ?_)
    refine ret_of (t := 2) rfl hM342 rfl ?_
    exact ⟨rfl, ((HN.out.below HB337.out)).old⟩
end Go.Proofs.Ytflamhndmggiaaa
