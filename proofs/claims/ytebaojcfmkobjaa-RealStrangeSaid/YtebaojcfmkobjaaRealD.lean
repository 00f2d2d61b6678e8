/-
  Contracts: the reference's answer whether a message is real.
-/
import Derived.Test.YtebaojcfmkobjaaRealC
set_option linter.unusedVariables false
set_option linter.unusedSimpArgs false
namespace Go.Proofs.Ytebaojcfmkobjaa
open Go.RowKit

def sgP (ps : List (Int × Int)) : Int × Int → Bool := fun q => decide (q ∈ ps)
theorem all_snoc {f : Int → Bool} {l : List Int} {i : Nat} {u : Int} (hu : l[i]? = some u) : (l.take (i + 1)).all f = ((l.take i).all f && f u) := by rw [take_at hu]; simp

set_option maxRecDepth 100000 in
set_option maxHeartbeats 4000000 in
theorem ref5_Real {G : Nat → Prop} {g : Nat} {L : List (List UInt8)} {ps : List (Int × Int)} {A : Option Addr} {n c : Nat} {ls : List Int} (N : Int) (x : MsD) (v : MsV) (w : World) (HB : Hid (RfI G w g L ps)) (HL : Hid (Sl w 1 A n (ints ls))) (hn : n ≤ 9223372036854775807) (HS : Hid (MsS w x v)) (HZ : Hid (MsZ x v)) {C : Array Value} (HC : Hid (C = msC x v)) {r : Int} (hr : Hid (chkE L (sgP ps) ls N x = r)) :
    Calls Try.prog 24 #[.pointer (some ⟨g, 0, none⟩), .int .i64 N, .slice A n c, .agg C] w fun e w' => e = .returned (.int .i64 r) ∧ Below w.heap.size w w' := by

  go_enter Try.func24, Try.ntmps24
  refine act_off 131 [(0, .pointer (some ⟨g, 0, none⟩)), (1, .int .i64 N), (2, .slice A n c), (3, .agg C)] (Frm.start rfl (by intro p hp; simp only [List.mem_cons, List.not_mem_nil, or_false] at hp; rcases hp with rfl | rfl | rfl | rfl <;> rfl)) (fun a0 hM => ?_)
  have HB2 : Hid (Below w.heap.size w w) := Below.refl _ _
  refine region_then fun K3 QK3 hK3 => ?_
  refine s_alloc (e := 42) hM (.inl rfl) rfl rfl (V := fun g => .pointer (some ⟨g, 0, none⟩)) (ev_box hM rfl rfl) (fun g4 a10 w5 hM9 KB8_ hb6 hg7 => ?_)
  have KB8 := hide KB8_
  clear hM KB8_
  clear hg7
  have HB11 := hide (below_then HB2.out hb6)
  clear hb6 HB2
  have HB13 : Hid (Below w5.heap.size w5 w5) := Below.refl _ _
  refine s_val hM9 (.inl rfl) rfl rfl (ev_move (.inr rfl) rfl) (fun a15 hM14 => ?_)
  clear hM9
  refine seg_nil (hK3 _ _ ?_)
  clear hK3 K3 QK3
  have hM16 := hM14.cut4 (t1 := 0) (t2 := 1) (t3 := 2) (t4 := 7) rfl rfl rfl rfl
  clear hM14
  refine wp_seq_k fun K17 hK17 => ?_
  obtain ⟨q, HM⟩ : ∃ q, Hid (mayM N x = q) := ⟨_, rfl⟩
  cases q
  case false =>
    have HE := hr.out
    unfold chkE at HE
    rw [HM.out] at HE
    simp only [Bool.false_eq_true, if_false] at HE
    refine region_then fun K18 QK18 hK18 => ?_
    refine s_val hM16 (.inl rfl) rfl rfl (ev_loadm rfl rfl (KB8.out.on HB13.out).rng Try.underlying42 rfl (by rw [HC.out]; exact Try.infoMsg)) (fun a20 hM19 => ?_)
    clear hM16
    refine s_val hM19 (.inl rfl) rfl rfl (ev_move (.inl rfl) rfl) (fun a22 hM21 => ?_)
    clear hM19
    refine s_call hM21 (.inl rfl) rfl rfl (f := 29) (args := #[.agg C, .int .i64 N]) (ev_call hM21 rfl rfl rfl (fun w => by simp [go_sem]) _) (ref4_Message N x v _ (hide (HS.out.below HB11.out)) HZ HC HM) (fun e w23 hp => ?_)
    obtain ⟨rfl, hb24⟩ := hp
    refine ⟨_, rfl, fun a26 hM25 => ?_⟩
    clear hM21
    have HB27 := hide (below_then HB11.out hb24)
    have HB28 := hide (below_then HB13.out hb24)
    clear hb24 HB11 HB13
    refine s_val hM25 (.inl rfl) rfl rfl (ev_not rfl rfl rfl) (fun a30 hM29 => ?_)
    clear hM25
    refine seg_nil (hK18 _ _ ?_)
    clear hK18 K18 QK18
    have hM31 := hM29.cut5 (t1 := 0) (t2 := 1) (t3 := 2) (t4 := 7) (t5 := 14) rfl rfl rfl rfl rfl
    clear hM29
    refine wp_cond_true (hM31.ev (t := 14) rfl) ?_
    refine region_then fun K32 QK32 hK32 => ?_
    refine s_val hM31 (.inl rfl) rfl rfl (ev_move (.inr rfl) rfl) (fun a34 hM33 => ?_)
    clear hM31
    refine seg_nil (hK32 _ _ ?_)
    clear hK32 K32 QK32
    have hM35 := hM33.cut1 (t1 := 8) rfl
    clear hM33
    refine wp_ret ?_
    repeat (with_reducible first | refine th_r ?_ | refine inb_r ?_ | refine js_r ?_)
    refine ret_of (t := 8) rfl hM35 rfl ?_
    first | exact ⟨ret_int HE, HB27.out⟩ | exact ⟨ret_int HE.out, HB27.out⟩
  case true =>
    obtain ⟨rr, hr2⟩ : ∃ q, Hid (realB L (sgP ps) ls x = q) := ⟨_, rfl⟩
    have HE := hr.out
    unfold chkE at HE
    rw [HM.out, hr2.out] at HE
    simp only [if_true] at HE
    have HE := hide HE
    clear hr
    have hr := hr2
    clear hr2
    refine region_then fun K36 QK36 hK36 => ?_
    refine s_val hM16 (.inl rfl) rfl rfl (ev_loadm rfl rfl (KB8.out.on HB13.out).rng Try.underlying42 rfl (by rw [HC.out]; exact Try.infoMsg)) (fun a38 hM37 => ?_)
    clear hM16
    refine s_val hM37 (.inl rfl) rfl rfl (ev_move (.inl rfl) rfl) (fun a40 hM39 => ?_)
    clear hM37
    refine s_call hM39 (.inl rfl) rfl rfl (f := 29) (args := #[.agg C, .int .i64 N]) (ev_call hM39 rfl rfl rfl (fun w => by simp [go_sem]) _) (ref4_Message N x v _ (hide (HS.out.below HB11.out)) HZ HC HM) (fun e w41 hp => ?_)
    obtain ⟨rfl, hb42⟩ := hp
    refine ⟨_, rfl, fun a44 hM43 => ?_⟩
    clear hM39
    have HB45 := hide (below_then HB11.out hb42)
    have HB46 := hide (below_then HB13.out hb42)
    clear hb42 HB11 HB13
    refine s_val hM43 (.inl rfl) rfl rfl (ev_not rfl rfl rfl) (fun a48 hM47 => ?_)
    clear hM43
    refine seg_nil (hK36 _ _ ?_)
    clear hK36 K36 QK36
    have hM49 := hM47.cut5 (t1 := 0) (t2 := 1) (t3 := 2) (t4 := 7) (t5 := 14) rfl rfl rfl rfl rfl
    clear hM47
    refine wp_cond_false (hM49.ev (t := 14) rfl) ?_
    refine wp_skip ?_
    refine hK17 _ _ ?_
    refine region_then fun K50 QK50 hK50 => ?_
    refine s_val hM49 (.inl rfl) rfl rfl (ev_move (.inr rfl) rfl) (fun a52 hM51 => ?_)
    clear hM49
    refine seg_nil (hK50 _ _ ?_)
    clear hK50 K50 QK50
    have hM53 := hM51.cut5 (t1 := 0) (t2 := 1) (t3 := 2) (t4 := 7) (t5 := 9) rfl rfl rfl rfl rfl
    clear hM51
    refine wp_seq_k fun K54 hK54 => ?_
    refine region_then fun K55 QK55 hK55 => ?_
    refine s_val hM53 (.inl rfl) rfl rfl (ev_fldw (m := 0) rfl rfl (fun w => by simp [go_sem])) (fun a57 hM56 => ?_)
    clear hM53
    refine s_val hM56 (.inl rfl) rfl rfl (ev_load1 (v := .int .i64 (x.k)) rfl rfl ((KB8.out.on HB46.out).rng.at_ (m := 0) (by rw [HC.out]; rfl)) (isAgg_no Try.underlying3 rfl)) (fun a59 hM58 => ?_)
    clear hM56
    refine seg_nil (hK55 _ _ ?_)
    clear hK55 K55 QK55
    have hM60 := hM58.cut6 (t1 := 0) (t2 := 1) (t3 := 2) (t4 := 7) (t5 := 9) (t6 := 16) rfl rfl rfl rfl rfl rfl
    clear hM58
    refine wp_block ?_
    refine wp_seq_k fun K61 hK61 => ?_
    obtain hk | hk | hk | hk | hk | hk | hk | hk := okM_kinds (mayM_iff.1 HM.out).2.1
    · skip
      have HR := hr.out
      rw [real_13 (.inl hk)] at HR
      have HR := hide HR
      have HBM := hide (may_b HM.out (by omega))
      have HD1 := hide (may_d HM.out (by omega)).1
      have HK := hide hk
      clear hk
      obtain ⟨BT, HBT⟩ : ∃ C : Array Value, Hid (C = btC x v) := ⟨_, rfl⟩
      have HRBT : Hid (Rng w41 g4 4 BT) := (((KB8.out.on HB46.out)).rng).sub 4 (sub_bt HC.out HBT.out)
      have HB63 : Hid (Below w41.heap.size w41 w41) := Below.refl _ _
      obtain ⟨AL, cL, -, -, -, -, k0, -, -, hl0, -⟩ := ((HB.out.below HB45.out)).open_
      have HCL := hide (CellAt.of k0)
      clear k0
      have HB65 : Hid (Below w41.heap.size w41 w41) := Below.refl _ _
      refine region_then fun K66 QK66 hK66 => ?_
      refine s_val hM60 (.inl rfl) rfl rfl (ev_bin rfl rfl rfl g_int (b_eql (b := true) (decide_eq_true HK.out))) (fun a68 hM67 => ?_)
      clear hM60
      refine s_val hM67 (.inl rfl) rfl rfl (ev_move (.inr rfl) rfl) (fun a70 hM69 => ?_)
      clear hM67
      refine seg_nil (hK66 _ _ ?_)
      clear hK66 K66 QK66
      have hM71 := hM69.cut7 (t1 := 0) (t2 := 1) (t3 := 2) (t4 := 7) (t5 := 9) (t6 := 16) (t7 := 25) rfl rfl rfl rfl rfl rfl rfl
      clear hM69
      refine wp_cond_true (hM71.ev (t := 25) rfl) ?_
      refine wp_skip ?_
      refine hK61 _ _ ?_
      refine wp_cond_true (hM71.ev (t := 25) rfl) ?_
      obtain ⟨q, HI⟩ : ∃ q, Hid (isB L x.d (batchB x.b.a x.b.n x.b.l) = q) := ⟨_, rfl⟩
      rw [HI.out] at HR
      cases q
      case true =>
        have HBY := HR
        rw [Bool.true_and] at HBY
        refine h_open_end 19 rfl (by kernel_rfl) fun K72 w73 hb74 hK72 => ?_
        have HB75 := hide (below_then HB45.out hb74)
        have HB76 := hide (below_then HB46.out hb74)
        have HB77 := hide (below_then HB63.out hb74)
        have HB78 := hide (below_then HB65.out hb74)
        clear hb74 HB45 HB46 HB63 HB65
        have hS79 : Below w73.heap.size w73 w73 := Below.refl _ _
        refine h_val 0 rfl (by kernel_rfl) (by kernel_rfl) (by kernel_rfl) hM71 (.inl rfl) rfl rfl hS79 (fun w' hr => (ev_move (.inl rfl) rfl)) (fun a81 hM80 => ?_)
        clear hM71
        refine h_val 1 rfl (by kernel_rfl) (by kernel_rfl) (by kernel_rfl) hM80 (.inl rfl) rfl rfl hS79 (fun w' hr => (ev_fldw (m := 4) rfl rfl (fun w => by simp [go_sem]))) (fun a83 hM82 => ?_)
        clear hM80
        refine h_val 2 rfl (by kernel_rfl) (by kernel_rfl) (by kernel_rfl) hM82 (.inl rfl) rfl rfl hS79 (fun w' hr => (ev_loadm rfl rfl ((HRBT.out.below HB77.out).below hr) Try.underlying36 rfl (by rw [HBT.out]; exact info_bat))) (fun a85 hM84 => ?_)
        clear hM82
        refine h_val 5 rfl (by kernel_rfl) (by kernel_rfl) (by kernel_rfl) hM84 (.inl rfl) rfl rfl hS79 (fun w' hr => (ev_fldw (m := 3) rfl rfl (fun w => by simp [go_sem]))) (fun a87 hM86 => ?_)
        clear hM84
        refine h_val 6 rfl (by kernel_rfl) (by kernel_rfl) (by kernel_rfl) hM86 (.inl rfl) rfl rfl hS79 (fun w' hr => (ev_load1 (v := .int .i64 (x.d)) rfl rfl (((KB8.out.on HB76.out).on hr).rng.at_ (m := 3) (by rw [HC.out]; rfl)) (isAgg_no Try.underlying3 rfl))) (fun a89 hM88 => ?_)
        clear hM86
        refine h_call 3 rfl (by kernel_rfl) hM88 (.inl rfl) rfl rfl (f := 39) (args := #[.agg BT]) (ev_call hM88 rfl rfl rfl (fun w => by simp [go_sem]) _) (by rw [HBT.out]; exact ref4_BatchBytes x.b.a x.b.n _ ((HS.out.below HB75.out)).tx HBM.out) (fun e w90 hp => ?_)
        obtain ⟨v', rfl, ho, hb91⟩ := hp
        obtain ⟨AH, cH, rfl⟩ := own_slice ho
        have HY := hide (Sl.of_own ho)
        clear ho
        have hS94 := s_in hS79 hb91
        refine ⟨_, rfl, fun a93 hM92 => ⟨hS94, ?_⟩⟩
        clear hM88
        have HB95 := hide (below_then HB75.out hb91)
        have HB96 := hide (below_then HB76.out hb91)
        have HB97 := hide (below_then HB77.out hb91)
        have HB98 := hide (below_then HB78.out hb91)
        clear hb91
        have HB100 : Hid (Below w90.heap.size w90 w90) := Below.refl _ _
        refine h_call 4 rfl (by kernel_rfl) hM92 (.inl rfl) rfl rfl (f := 45) (args := #[.pointer (some ⟨g, 0, none⟩), .slice AH ((batchB x.b.a x.b.n x.b.l).length) cH]) (ev_call hM92 rfl rfl rfl (fun w => by simp [go_sem]) _) (ref5_Find (x := batchB x.b.a x.b.n x.b.l) _ (HB.out.below HB95.out) (HY.out.below HB100.out) (by have := batchB_le HBM.out; omega) (hide rfl)) (fun e w101 hp => ?_)
        obtain ⟨rfl, q105, rfl⟩ := hp
        have hb102 : Below w90.heap.size w90 (w90.drewN q105) := below_drewN (Below.refl _ _) q105
        generalize w90.drewN q105 = w101 at hb102 ⊢
        have hS106 := s_in hS94 hb102
        refine ⟨_, rfl, fun a104 hM103 => ⟨hS106, ?_⟩⟩
        clear hM92
        have HB107 := hide (below_then HB95.out hb102)
        have HB108 := hide (below_then HB96.out hb102)
        have HB109 := hide (below_then HB97.out hb102)
        have HB110 := hide (below_then HB98.out hb102)
        have HB111 := hide (below_then HB100.out hb102)
        clear hb102 HB95 HB96 HB97 HB98 HB100
        refine h_val 7 rfl (by kernel_rfl) (by kernel_rfl) (by kernel_rfl) hM103 (.inl rfl) rfl rfl hS106 (fun w' hr => (ev_bin rfl rfl rfl g_int (b_eql (b := true) HI.out))) (fun a113 hM112 => ?_)
        clear hM103
        refine h_val 8 rfl (by kernel_rfl) (by kernel_rfl) (by kernel_rfl) hM112 (.inl rfl) rfl rfl hS106 (fun w' hr => (ev_move (.inl rfl) rfl)) (fun a115 hM114 => ?_)
        clear hM112
        refine h_val 9 rfl (by kernel_rfl) (by kernel_rfl) (by kernel_rfl) hM114 (.inr ⟨_, _, _, rfl, rfl, rfl⟩) rfl rfl hS106 (fun w' hr => (ev_move (.inl rfl) rfl)) (fun a117 hM116 => ?_)
        clear hM114
        refine h_val 10 rfl (by kernel_rfl) (by kernel_rfl) (by kernel_rfl) hM116 (.inr ⟨_, _, _, rfl, rfl, rfl⟩) rfl rfl hS106 (fun w' hr => (ev_fldw (m := 4) rfl rfl (fun w => by simp [go_sem]))) (fun a119 hM118 => ?_)
        clear hM116
        refine h_val 11 rfl (by kernel_rfl) (by kernel_rfl) (by kernel_rfl) hM118 (.inr ⟨_, _, _, rfl, rfl, rfl⟩) rfl rfl hS106 (fun w' hr => (ev_fldw (m := 4) rfl rfl (fun w => by simp [go_sem]))) (fun a121 hM120 => ?_)
        clear hM118
        refine h_val 12 rfl (by kernel_rfl) (by kernel_rfl) (by kernel_rfl) hM120 (.inr ⟨_, _, _, rfl, rfl, rfl⟩) rfl rfl hS106 (fun w' hr => (ev_load1 (v := .int .i64 (x.b.a)) rfl rfl (((HRBT.out.below HB77.out).below hr).at_ (m := 0) (by rw [HBT.out]; rfl)) (isAgg_no Try.underlying3 rfl))) (fun a123 hM122 => ?_)
        clear hM120
        refine h_val 13 rfl (by kernel_rfl) (by kernel_rfl) (by kernel_rfl) hM122 (.inr ⟨_, _, _, rfl, rfl, rfl⟩) rfl rfl hS106 (fun w' hr => (ev_fldw (m := 3) rfl rfl (fun w => by simp [go_sem]))) (fun a125 hM124 => ?_)
        clear hM122
        refine h_val 14 rfl (by kernel_rfl) (by kernel_rfl) (by kernel_rfl) hM124 (.inr ⟨_, _, _, rfl, rfl, rfl⟩) rfl rfl hS106 (fun w' hr => (ev_load1 (v := .int .i64 (x.d)) rfl rfl (((KB8.out.on HB76.out).on hr).rng.at_ (m := 3) (by rw [HC.out]; rfl)) (isAgg_no Try.underlying3 rfl))) (fun a127 hM126 => ?_)
        clear hM124
        refine h_val 15 rfl (by kernel_rfl) (by kernel_rfl) (by kernel_rfl) hM126 (.inr ⟨_, _, _, rfl, rfl, rfl⟩) rfl rfl hS106 (fun w' hr => (ev_move (.inl rfl) rfl)) (fun a129 hM128 => ?_)
        clear hM126
        refine h_call 16 rfl (by kernel_rfl) hM128 (.inr ⟨_, _, _, rfl, rfl, rfl⟩) rfl rfl (f := 46) (args := #[.pointer (some ⟨g, 0, none⟩), .int .i64 (x.b.a), .int .i64 (x.d), .slice A n c]) (ev_call hM128 rfl rfl rfl (fun w => by simp [go_sem]) _) (ref5_by x.b.a x.d _ (HB.out.below HB107.out) (HL.out.below HB107.out) hn HBY) (fun e w130 hp => ?_)
        obtain ⟨rfl, rfl⟩ := hp
        refine ⟨_, rfl, fun a133 hM132 => ⟨hS106, ?_⟩⟩
        clear hM128
        refine h_val 17 rfl (by kernel_rfl) (by kernel_rfl) (by kernel_rfl) hM132 (.inl rfl) rfl rfl hS106 (fun w' hr => (ev_pick rfl rfl rfl)) (fun a135 hM134 => ?_)
        clear hM132
        refine h_val 18 rfl (by kernel_rfl) (by kernel_rfl) (by kernel_rfl) hM134 (.inl rfl) rfl rfl hS106 (fun w' hr => (ev_move (.inr rfl) rfl)) (fun a137 hM136 => ?_)
        clear hM134
        refine h_nil (by kernel_rfl) (hK72 _ _ ?_)
        clear hK72 K72 hS106 HB75 HB76 HB77 HB78
        have hM138 := hM136.cut5 (t1 := 0) (t2 := 1) (t3 := 2) (t4 := 7) (t5 := 9) rfl rfl rfl rfl rfl
        clear hM136
        refine inb_n ?_
        refine hK54 _ _ ?_
        refine wp_seq_k fun K139 hK139 => ?_
        have HV : Hid (rr = rr) := hide rfl
        clear HV
        cases rr
        case true =>
          simp only [Bool.false_eq_true, if_false, if_true] at HE
          refine region_then fun K140 QK140 hK140 => ?_
          refine s_val hM138 (.inl rfl) rfl rfl (ev_move (.inl rfl) rfl) (fun a142 hM141 => ?_)
          clear hM138
          refine s_val hM141 (.inl rfl) rfl rfl (ev_not rfl rfl rfl) (fun a144 hM143 => ?_)
          clear hM141
          refine seg_nil (hK140 _ _ ?_)
          clear hK140 K140 QK140
          have hM145 := hM143.cut1 (t1 := 130) rfl
          clear hM143
          refine wp_cond_false (hM145.ev (t := 130) rfl) ?_
          refine wp_skip ?_
          refine hK139 _ _ ?_
          refine region_then fun K146 QK146 hK146 => ?_
          refine s_val hM145 (.inl rfl) rfl rfl (ev_move (.inr rfl) rfl) (fun a148 hM147 => ?_)
          clear hM145
          refine seg_nil (hK146 _ _ ?_)
          clear hK146 K146 QK146
          have hM149 := hM147.cut1 (t1 := 8) rfl
          clear hM147
          refine wp_ret ?_
          repeat (with_reducible first | refine th_r ?_ | refine inb_r ?_ | refine js_r ?_)
          refine ret_of (t := 8) rfl hM149 rfl ?_
          first | exact ⟨ret_int HE, HB107.out⟩ | exact ⟨ret_int HE.out, HB107.out⟩
        case false =>
          simp only [Bool.false_eq_true, if_false, if_true] at HE
          refine region_then fun K150 QK150 hK150 => ?_
          refine s_val hM138 (.inl rfl) rfl rfl (ev_move (.inl rfl) rfl) (fun a152 hM151 => ?_)
          clear hM138
          refine s_val hM151 (.inl rfl) rfl rfl (ev_not rfl rfl rfl) (fun a154 hM153 => ?_)
          clear hM151
          refine seg_nil (hK150 _ _ ?_)
          clear hK150 K150 QK150
          have hM155 := hM153.cut1 (t1 := 130) rfl
          clear hM153
          refine wp_cond_true (hM155.ev (t := 130) rfl) ?_
          refine region_then fun K156 QK156 hK156 => ?_
          refine s_val hM155 (.inl rfl) rfl rfl (ev_move (.inr rfl) rfl) (fun a158 hM157 => ?_)
          clear hM155
          refine seg_nil (hK156 _ _ ?_)
          clear hK156 K156 QK156
          have hM159 := hM157.cut1 (t1 := 8) rfl
          clear hM157
          refine wp_ret ?_
          repeat (with_reducible first | refine th_r ?_ | refine inb_r ?_ | refine js_r ?_)
          refine ret_of (t := 8) rfl hM159 rfl ?_
          first | exact ⟨ret_int HE, HB107.out⟩ | exact ⟨ret_int HE.out, HB107.out⟩
      case false =>
        have HNO := HR
        rw [Bool.false_and] at HNO
        have HNO := hide HNO.symm
        refine h_open_end 19 rfl (by kernel_rfl) fun K160 w161 hb162 hK160 => ?_
        have HB163 := hide (below_then HB45.out hb162)
        have HB164 := hide (below_then HB46.out hb162)
        have HB165 := hide (below_then HB63.out hb162)
        have HB166 := hide (below_then HB65.out hb162)
        clear hb162 HB45 HB46 HB63 HB65
        have hS167 : Below w161.heap.size w161 w161 := Below.refl _ _
        refine h_val 0 rfl (by kernel_rfl) (by kernel_rfl) (by kernel_rfl) hM71 (.inl rfl) rfl rfl hS167 (fun w' hr => (ev_move (.inl rfl) rfl)) (fun a169 hM168 => ?_)
        clear hM71
        refine h_val 1 rfl (by kernel_rfl) (by kernel_rfl) (by kernel_rfl) hM168 (.inl rfl) rfl rfl hS167 (fun w' hr => (ev_fldw (m := 4) rfl rfl (fun w => by simp [go_sem]))) (fun a171 hM170 => ?_)
        clear hM168
        refine h_val 2 rfl (by kernel_rfl) (by kernel_rfl) (by kernel_rfl) hM170 (.inl rfl) rfl rfl hS167 (fun w' hr => (ev_loadm rfl rfl ((HRBT.out.below HB165.out).below hr) Try.underlying36 rfl (by rw [HBT.out]; exact info_bat))) (fun a173 hM172 => ?_)
        clear hM170
        refine h_val 5 rfl (by kernel_rfl) (by kernel_rfl) (by kernel_rfl) hM172 (.inl rfl) rfl rfl hS167 (fun w' hr => (ev_fldw (m := 3) rfl rfl (fun w => by simp [go_sem]))) (fun a175 hM174 => ?_)
        clear hM172
        refine h_val 6 rfl (by kernel_rfl) (by kernel_rfl) (by kernel_rfl) hM174 (.inl rfl) rfl rfl hS167 (fun w' hr => (ev_load1 (v := .int .i64 (x.d)) rfl rfl (((KB8.out.on HB164.out).on hr).rng.at_ (m := 3) (by rw [HC.out]; rfl)) (isAgg_no Try.underlying3 rfl))) (fun a177 hM176 => ?_)
        clear hM174
        refine h_call 3 rfl (by kernel_rfl) hM176 (.inl rfl) rfl rfl (f := 39) (args := #[.agg BT]) (ev_call hM176 rfl rfl rfl (fun w => by simp [go_sem]) _) (by rw [HBT.out]; exact ref4_BatchBytes x.b.a x.b.n _ ((HS.out.below HB163.out)).tx HBM.out) (fun e w178 hp => ?_)
        obtain ⟨v', rfl, ho, hb179⟩ := hp
        obtain ⟨AH, cH, rfl⟩ := own_slice ho
        have HY := hide (Sl.of_own ho)
        clear ho
        have hS182 := s_in hS167 hb179
        refine ⟨_, rfl, fun a181 hM180 => ⟨hS182, ?_⟩⟩
        clear hM176
        have HB183 := hide (below_then HB163.out hb179)
        have HB184 := hide (below_then HB164.out hb179)
        have HB185 := hide (below_then HB165.out hb179)
        have HB186 := hide (below_then HB166.out hb179)
        clear hb179
        have HB188 : Hid (Below w178.heap.size w178 w178) := Below.refl _ _
        refine h_call 4 rfl (by kernel_rfl) hM180 (.inl rfl) rfl rfl (f := 45) (args := #[.pointer (some ⟨g, 0, none⟩), .slice AH ((batchB x.b.a x.b.n x.b.l).length) cH]) (ev_call hM180 rfl rfl rfl (fun w => by simp [go_sem]) _) (ref5_Find (x := batchB x.b.a x.b.n x.b.l) _ (HB.out.below HB183.out) (HY.out.below HB188.out) (by have := batchB_le HBM.out; omega) (hide rfl)) (fun e w189 hp => ?_)
        obtain ⟨rfl, q193, rfl⟩ := hp
        have hb190 : Below w178.heap.size w178 (w178.drewN q193) := below_drewN (Below.refl _ _) q193
        generalize w178.drewN q193 = w189 at hb190 ⊢
        have hS194 := s_in hS182 hb190
        refine ⟨_, rfl, fun a192 hM191 => ⟨hS194, ?_⟩⟩
        clear hM180
        have HB195 := hide (below_then HB183.out hb190)
        have HB196 := hide (below_then HB184.out hb190)
        have HB197 := hide (below_then HB185.out hb190)
        have HB198 := hide (below_then HB186.out hb190)
        have HB199 := hide (below_then HB188.out hb190)
        clear hb190 HB183 HB184 HB185 HB186 HB188
        refine h_val 7 rfl (by kernel_rfl) (by kernel_rfl) (by kernel_rfl) hM191 (.inl rfl) rfl rfl hS194 (fun w' hr => (ev_bin rfl rfl rfl g_int (b_eql (b := false) HI.out))) (fun a201 hM200 => ?_)
        clear hM191
        refine h_val 8 rfl (by kernel_rfl) (by kernel_rfl) (by kernel_rfl) hM200 (.inl rfl) rfl rfl hS194 (fun w' hr => (ev_move (.inl rfl) rfl)) (fun a203 hM202 => ?_)
        clear hM200
        refine h_skip 9 rfl (by kernel_rfl) (by kernel_rfl) (by kernel_rfl) hM202 rfl rfl rfl rfl rfl rfl hS194 (fun a205 hM204 => ?_)
        clear hM202
        refine h_skip 10 rfl (by kernel_rfl) (by kernel_rfl) (by kernel_rfl) hM204 rfl rfl rfl rfl rfl rfl hS194 (fun a207 hM206 => ?_)
        clear hM204
        refine h_skip 11 rfl (by kernel_rfl) (by kernel_rfl) (by kernel_rfl) hM206 rfl rfl rfl rfl rfl rfl hS194 (fun a209 hM208 => ?_)
        clear hM206
        refine h_skip 12 rfl (by kernel_rfl) (by kernel_rfl) (by kernel_rfl) hM208 rfl rfl rfl rfl rfl rfl hS194 (fun a211 hM210 => ?_)
        clear hM208
        refine h_skip 13 rfl (by kernel_rfl) (by kernel_rfl) (by kernel_rfl) hM210 rfl rfl rfl rfl rfl rfl hS194 (fun a213 hM212 => ?_)
        clear hM210
        refine h_skip 14 rfl (by kernel_rfl) (by kernel_rfl) (by kernel_rfl) hM212 rfl rfl rfl rfl rfl rfl hS194 (fun a215 hM214 => ?_)
        clear hM212
        refine h_skip 15 rfl (by kernel_rfl) (by kernel_rfl) (by kernel_rfl) hM214 rfl rfl rfl rfl rfl rfl hS194 (fun a217 hM216 => ?_)
        clear hM214
        refine h_skip 16 rfl (by kernel_rfl) (by kernel_rfl) (by kernel_rfl) hM216 rfl rfl rfl rfl rfl rfl hS194 (fun a219 hM218 => ?_)
        clear hM216
        refine h_val 17 rfl (by kernel_rfl) (by kernel_rfl) (by kernel_rfl) hM218 (.inl rfl) rfl rfl hS194 (fun w' hr => (ev_pick rfl rfl rfl)) (fun a221 hM220 => ?_)
        clear hM218
        refine h_val 18 rfl (by kernel_rfl) (by kernel_rfl) (by kernel_rfl) hM220 (.inl rfl) rfl rfl hS194 (fun w' hr => (ev_move (.inr rfl) rfl)) (fun a223 hM222 => ?_)
        clear hM220
        refine h_nil (by kernel_rfl) (hK160 _ _ ?_)
        clear hK160 K160 hS194 HB163 HB164 HB165 HB166
        have hM224 := hM222.cut5 (t1 := 0) (t2 := 1) (t3 := 2) (t4 := 7) (t5 := 9) rfl rfl rfl rfl rfl
        clear hM222
        refine inb_n ?_
        refine hK54 _ _ ?_
        refine wp_seq_k fun K225 hK225 => ?_
        have HV : Hid (false = rr) := hide HNO.out.symm
        rw [HV.out] at hM224
        cases rr
        case true =>
          simp only [Bool.false_eq_true, if_false, if_true] at HE
          refine region_then fun K226 QK226 hK226 => ?_
          refine s_val hM224 (.inl rfl) rfl rfl (ev_move (.inl rfl) rfl) (fun a228 hM227 => ?_)
          clear hM224
          refine s_val hM227 (.inl rfl) rfl rfl (ev_not rfl rfl rfl) (fun a230 hM229 => ?_)
          clear hM227
          refine seg_nil (hK226 _ _ ?_)
          clear hK226 K226 QK226
          have hM231 := hM229.cut1 (t1 := 130) rfl
          clear hM229
          refine wp_cond_false (hM231.ev (t := 130) rfl) ?_
          refine wp_skip ?_
          refine hK225 _ _ ?_
          refine region_then fun K232 QK232 hK232 => ?_
          refine s_val hM231 (.inl rfl) rfl rfl (ev_move (.inr rfl) rfl) (fun a234 hM233 => ?_)
          clear hM231
          refine seg_nil (hK232 _ _ ?_)
          clear hK232 K232 QK232
          have hM235 := hM233.cut1 (t1 := 8) rfl
          clear hM233
          refine wp_ret ?_
          repeat (with_reducible first | refine th_r ?_ | refine inb_r ?_ | refine js_r ?_)
          refine ret_of (t := 8) rfl hM235 rfl ?_
          first | exact ⟨ret_int HE, HB195.out⟩ | exact ⟨ret_int HE.out, HB195.out⟩
        case false =>
          simp only [Bool.false_eq_true, if_false, if_true] at HE
          refine region_then fun K236 QK236 hK236 => ?_
          refine s_val hM224 (.inl rfl) rfl rfl (ev_move (.inl rfl) rfl) (fun a238 hM237 => ?_)
          clear hM224
          refine s_val hM237 (.inl rfl) rfl rfl (ev_not rfl rfl rfl) (fun a240 hM239 => ?_)
          clear hM237
          refine seg_nil (hK236 _ _ ?_)
          clear hK236 K236 QK236
          have hM241 := hM239.cut1 (t1 := 130) rfl
          clear hM239
          refine wp_cond_true (hM241.ev (t := 130) rfl) ?_
          refine region_then fun K242 QK242 hK242 => ?_
          refine s_val hM241 (.inl rfl) rfl rfl (ev_move (.inr rfl) rfl) (fun a244 hM243 => ?_)
          clear hM241
          refine seg_nil (hK242 _ _ ?_)
          clear hK242 K242 QK242
          have hM245 := hM243.cut1 (t1 := 8) rfl
          clear hM243
          refine wp_ret ?_
          repeat (with_reducible first | refine th_r ?_ | refine inb_r ?_ | refine js_r ?_)
          refine ret_of (t := 8) rfl hM245 rfl ?_
          first | exact ⟨ret_int HE, HB195.out⟩ | exact ⟨ret_int HE.out, HB195.out⟩
    · skip
      have HR := hr.out
      rw [real_2 hk] at HR
      have HR := hide HR
      have HD1 := hide (may_d HM.out (by omega)).1
      have HK := hide hk
      clear hk
      obtain ⟨AL, cL, -, -, -, -, k0, -, -, hl0, -⟩ := ((HB.out.below HB45.out)).open_
      have HCL := hide (CellAt.of k0)
      clear k0
      have HB247 : Hid (Below w41.heap.size w41 w41) := Below.refl _ _
      refine region_then fun K248 QK248 hK248 => ?_
      refine s_val hM60 (.inl rfl) rfl rfl (ev_bin rfl rfl rfl g_int (b_eql (b := false) (by have := HK.out; simp [this]))) (fun a250 hM249 => ?_)
      clear hM60
      refine s_val hM249 (.inl rfl) rfl rfl (ev_move (.inr rfl) rfl) (fun a252 hM251 => ?_)
      clear hM249
      refine seg_nil (hK248 _ _ ?_)
      clear hK248 K248 QK248
      have hM253 := hM251.cut7 (t1 := 0) (t2 := 1) (t3 := 2) (t4 := 7) (t5 := 9) (t6 := 16) (t7 := 25) rfl rfl rfl rfl rfl rfl rfl
      clear hM251
      refine wp_cond_false (hM253.ev (t := 25) rfl) ?_
      refine region_last fun K254 QK254 hK254 => ?_
      refine s_val hM253 (.inl rfl) rfl rfl (ev_bin rfl rfl rfl g_int (b_eql (b := false) (by have := HK.out; simp [this]))) (fun a256 hM255 => ?_)
      clear hM253
      refine s_val hM255 (.inl rfl) rfl rfl (ev_move (.inr rfl) rfl) (fun a258 hM257 => ?_)
      clear hM255
      refine seg_nil (hK254 _ _ ?_)
      clear hK254 K254 QK254
      have hM259 := hM257.cut7 (t1 := 0) (t2 := 1) (t3 := 2) (t4 := 7) (t5 := 9) (t6 := 16) (t7 := 25) rfl rfl rfl rfl rfl rfl rfl
      clear hM257
      refine hK61 _ _ ?_
      refine wp_cond_false (hM259.ev (t := 25) rfl) ?_
      refine region_then fun K260 QK260 hK260 => ?_
      refine s_val hM259 (.inl rfl) rfl rfl (ev_bin rfl rfl rfl g_int (b_eql (b := false) (by have := HK.out; simp [this]))) (fun a262 hM261 => ?_)
      clear hM259
      refine s_val hM261 (.inl rfl) rfl rfl (ev_move (.inr rfl) rfl) (fun a264 hM263 => ?_)
      clear hM261
      refine seg_nil (hK260 _ _ ?_)
      clear hK260 K260 QK260
      have hM265 := hM263.cut8 (t1 := 0) (t2 := 1) (t3 := 2) (t4 := 7) (t5 := 9) (t6 := 16) (t7 := 25) (t8 := 46) rfl rfl rfl rfl rfl rfl rfl rfl
      clear hM263
      refine wp_cond_false (hM265.ev (t := 46) rfl) ?_
      refine region_then fun K266 QK266 hK266 => ?_
      refine s_val hM265 (.inl rfl) rfl rfl (ev_bin rfl rfl rfl g_int (b_eql (b := false) (by have := HK.out; simp [this]))) (fun a268 hM267 => ?_)
      clear hM265
      refine s_val hM267 (.inl rfl) rfl rfl (ev_move (.inr rfl) rfl) (fun a270 hM269 => ?_)
      clear hM267
      refine seg_nil (hK266 _ _ ?_)
      clear hK266 K266 QK266
      have hM271 := hM269.cut9 (t1 := 0) (t2 := 1) (t3 := 2) (t4 := 7) (t5 := 9) (t6 := 16) (t7 := 25) (t8 := 46) (t9 := 65) rfl rfl rfl rfl rfl rfl rfl rfl rfl
      clear hM269
      refine wp_cond_false (hM271.ev (t := 65) rfl) ?_
      refine region_then fun K272 QK272 hK272 => ?_
      refine s_val hM271 (.inl rfl) rfl rfl (ev_bin rfl rfl rfl g_int (b_eql (b := true) (decide_eq_true HK.out))) (fun a274 hM273 => ?_)
      clear hM271
      refine s_val hM273 (.inl rfl) rfl rfl (ev_move (.inr rfl) rfl) (fun a276 hM275 => ?_)
      clear hM273
      refine seg_nil (hK272 _ _ ?_)
      clear hK272 K272 QK272
      have hM277 := hM275.cut10 (t1 := 0) (t2 := 1) (t3 := 2) (t4 := 7) (t5 := 9) (t6 := 16) (t7 := 25) (t8 := 46) (t9 := 65) (t10 := 100) rfl rfl rfl rfl rfl rfl rfl rfl rfl rfl
      clear hM275
      refine wp_cond_true (hM277.ev (t := 100) rfl) ?_
      obtain ⟨q, HQ⟩ : ∃ q, Hid (decide (x.d ≤ (L.length : Int)) = q) := ⟨_, rfl⟩
      rw [HQ.out] at HR
      have HRV := hide HR.out
      refine h_open_end 9 rfl (by kernel_rfl) fun K278 w279 hb280 hK278 => ?_
      have HB281 := hide (below_then HB45.out hb280)
      have HB282 := hide (below_then HB46.out hb280)
      have HB283 := hide (below_then HB247.out hb280)
      clear hb280 HB45 HB46 HB247
      have hS284 : Below w279.heap.size w279 w279 := Below.refl _ _
      refine h_val 0 rfl (by kernel_rfl) (by kernel_rfl) (by kernel_rfl) hM277 (.inl rfl) rfl rfl hS284 (fun w' hr => (ev_fldw (m := 3) rfl rfl (fun w => by simp [go_sem]))) (fun a286 hM285 => ?_)
      clear hM277
      refine h_val 1 rfl (by kernel_rfl) (by kernel_rfl) (by kernel_rfl) hM285 (.inl rfl) rfl rfl hS284 (fun w' hr => (ev_load1 (v := .int .i64 (x.d)) rfl rfl (((KB8.out.on HB282.out).on hr).rng.at_ (m := 3) (by rw [HC.out]; rfl)) (isAgg_no Try.underlying3 rfl))) (fun a288 hM287 => ?_)
      clear hM285
      refine h_val 2 rfl (by kernel_rfl) (by kernel_rfl) (by kernel_rfl) hM287 (.inl rfl) rfl rfl hS284 (fun w' hr => (ev_move (.inl rfl) rfl)) (fun a290 hM289 => ?_)
      clear hM287
      refine h_val 3 rfl (by kernel_rfl) (by kernel_rfl) (by kernel_rfl) hM289 (.inl rfl) rfl rfl hS284 (fun w' hr => (ev_nilc rfl rfl)) (fun a292 hM291 => ?_)
      clear hM289
      refine h_val 4 rfl (by kernel_rfl) (by kernel_rfl) (by kernel_rfl) hM291 (.inl rfl) rfl rfl hS284 (fun w' hr => (ev_fldw (m := 0) rfl rfl (fun w => by simp [go_sem]))) (fun a294 hM293 => ?_)
      clear hM291
      refine h_val 5 rfl (by kernel_rfl) (by kernel_rfl) (by kernel_rfl) hM293 (.inl rfl) rfl rfl hS284 (fun w' hr => (ev_load1 (v := .slice AL L.length cL) rfl rfl (((HCL.out.below HB283.out).below hr)).2 (isAgg_no (P := Try.prog) (d := .slice 60) (by kernel_rfl) rfl))) (fun a296 hM295 => ?_)
      clear hM293
      refine h_val 6 rfl (by kernel_rfl) (by kernel_rfl) (by kernel_rfl) hM295 (.inl rfl) rfl rfl hS284 (fun w' hr => (ev_len rfl rfl Try.underlying31)) (fun a298 hM297 => ?_)
      clear hM295
      refine h_val 7 rfl (by kernel_rfl) (by kernel_rfl) (by kernel_rfl) hM297 (.inl rfl) rfl rfl hS284 (fun w' hr => (ev_bin rfl rfl rfl g_int (b_leq (b := q) HQ.out))) (fun a300 hM299 => ?_)
      clear hM297
      refine h_val 8 rfl (by kernel_rfl) (by kernel_rfl) (by kernel_rfl) hM299 (.inl rfl) rfl rfl hS284 (fun w' hr => (ev_move (.inr rfl) rfl)) (fun a302 hM301 => ?_)
      clear hM299
      refine h_nil (by kernel_rfl) (hK278 _ _ ?_)
      clear hK278 K278 hS284 
      have hM303 := hM301.cut5 (t1 := 0) (t2 := 1) (t3 := 2) (t4 := 7) (t5 := 9) rfl rfl rfl rfl rfl
      clear hM301
      refine inb_n ?_
      refine hK54 _ _ ?_
      refine wp_seq_k fun K304 hK304 => ?_
      have HV : Hid (q = rr) := HRV
      rw [HV.out] at hM303
      cases rr
      case true =>
        simp only [Bool.false_eq_true, if_false, if_true] at HE
        refine region_then fun K305 QK305 hK305 => ?_
        refine s_val hM303 (.inl rfl) rfl rfl (ev_move (.inl rfl) rfl) (fun a307 hM306 => ?_)
        clear hM303
        refine s_val hM306 (.inl rfl) rfl rfl (ev_not rfl rfl rfl) (fun a309 hM308 => ?_)
        clear hM306
        refine seg_nil (hK305 _ _ ?_)
        clear hK305 K305 QK305
        have hM310 := hM308.cut1 (t1 := 130) rfl
        clear hM308
        refine wp_cond_false (hM310.ev (t := 130) rfl) ?_
        refine wp_skip ?_
        refine hK304 _ _ ?_
        refine region_then fun K311 QK311 hK311 => ?_
        refine s_val hM310 (.inl rfl) rfl rfl (ev_move (.inr rfl) rfl) (fun a313 hM312 => ?_)
        clear hM310
        refine seg_nil (hK311 _ _ ?_)
        clear hK311 K311 QK311
        have hM314 := hM312.cut1 (t1 := 8) rfl
        clear hM312
        refine wp_ret ?_
        repeat (with_reducible first | refine th_r ?_ | refine inb_r ?_ | refine js_r ?_)
        refine ret_of (t := 8) rfl hM314 rfl ?_
        first | exact ⟨ret_int HE, HB281.out⟩ | exact ⟨ret_int HE.out, HB281.out⟩
      case false =>
        simp only [Bool.false_eq_true, if_false, if_true] at HE
        refine region_then fun K315 QK315 hK315 => ?_
        refine s_val hM303 (.inl rfl) rfl rfl (ev_move (.inl rfl) rfl) (fun a317 hM316 => ?_)
        clear hM303
        refine s_val hM316 (.inl rfl) rfl rfl (ev_not rfl rfl rfl) (fun a319 hM318 => ?_)
        clear hM316
        refine seg_nil (hK315 _ _ ?_)
        clear hK315 K315 QK315
        have hM320 := hM318.cut1 (t1 := 130) rfl
        clear hM318
        refine wp_cond_true (hM320.ev (t := 130) rfl) ?_
        refine region_then fun K321 QK321 hK321 => ?_
        refine s_val hM320 (.inl rfl) rfl rfl (ev_move (.inr rfl) rfl) (fun a323 hM322 => ?_)
        clear hM320
        refine seg_nil (hK321 _ _ ?_)
        clear hK321 K321 QK321
        have hM324 := hM322.cut1 (t1 := 8) rfl
        clear hM322
        refine wp_ret ?_
        repeat (with_reducible first | refine th_r ?_ | refine inb_r ?_ | refine js_r ?_)
        refine ret_of (t := 8) rfl hM324 rfl ?_
        first | exact ⟨ret_int HE, HB281.out⟩ | exact ⟨ret_int HE.out, HB281.out⟩
    · skip
      have HR := hr.out
      rw [real_13 (.inr hk)] at HR
      have HR := hide HR
      have HBM := hide (may_b HM.out (by omega))
      have HD1 := hide (may_d HM.out (by omega)).1
      have HK := hide hk
      clear hk
      obtain ⟨BT, HBT⟩ : ∃ C : Array Value, Hid (C = btC x v) := ⟨_, rfl⟩
      have HRBT : Hid (Rng w41 g4 4 BT) := (((KB8.out.on HB46.out)).rng).sub 4 (sub_bt HC.out HBT.out)
      have HB326 : Hid (Below w41.heap.size w41 w41) := Below.refl _ _
      obtain ⟨AL, cL, -, -, -, -, k0, -, -, hl0, -⟩ := ((HB.out.below HB45.out)).open_
      have HCL := hide (CellAt.of k0)
      clear k0
      have HB328 : Hid (Below w41.heap.size w41 w41) := Below.refl _ _
      refine region_then fun K329 QK329 hK329 => ?_
      refine s_val hM60 (.inl rfl) rfl rfl (ev_bin rfl rfl rfl g_int (b_eql (b := false) (by have := HK.out; simp [this]))) (fun a331 hM330 => ?_)
      clear hM60
      refine s_val hM330 (.inl rfl) rfl rfl (ev_move (.inr rfl) rfl) (fun a333 hM332 => ?_)
      clear hM330
      refine seg_nil (hK329 _ _ ?_)
      clear hK329 K329 QK329
      have hM334 := hM332.cut7 (t1 := 0) (t2 := 1) (t3 := 2) (t4 := 7) (t5 := 9) (t6 := 16) (t7 := 25) rfl rfl rfl rfl rfl rfl rfl
      clear hM332
      refine wp_cond_false (hM334.ev (t := 25) rfl) ?_
      refine region_last fun K335 QK335 hK335 => ?_
      refine s_val hM334 (.inl rfl) rfl rfl (ev_bin rfl rfl rfl g_int (b_eql (b := true) (decide_eq_true HK.out))) (fun a337 hM336 => ?_)
      clear hM334
      refine s_val hM336 (.inl rfl) rfl rfl (ev_move (.inr rfl) rfl) (fun a339 hM338 => ?_)
      clear hM336
      refine seg_nil (hK335 _ _ ?_)
      clear hK335 K335 QK335
      have hM340 := hM338.cut7 (t1 := 0) (t2 := 1) (t3 := 2) (t4 := 7) (t5 := 9) (t6 := 16) (t7 := 25) rfl rfl rfl rfl rfl rfl rfl
      clear hM338
      refine hK61 _ _ ?_
      refine wp_cond_true (hM340.ev (t := 25) rfl) ?_
      obtain ⟨q, HI⟩ : ∃ q, Hid (isB L x.d (batchB x.b.a x.b.n x.b.l) = q) := ⟨_, rfl⟩
      rw [HI.out] at HR
      cases q
      case true =>
        have HBY := HR
        rw [Bool.true_and] at HBY
        refine h_open_end 19 rfl (by kernel_rfl) fun K341 w342 hb343 hK341 => ?_
        have HB344 := hide (below_then HB45.out hb343)
        have HB345 := hide (below_then HB46.out hb343)
        have HB346 := hide (below_then HB326.out hb343)
        have HB347 := hide (below_then HB328.out hb343)
        clear hb343 HB45 HB46 HB326 HB328
        have hS348 : Below w342.heap.size w342 w342 := Below.refl _ _
        refine h_val 0 rfl (by kernel_rfl) (by kernel_rfl) (by kernel_rfl) hM340 (.inl rfl) rfl rfl hS348 (fun w' hr => (ev_move (.inl rfl) rfl)) (fun a350 hM349 => ?_)
        clear hM340
        refine h_val 1 rfl (by kernel_rfl) (by kernel_rfl) (by kernel_rfl) hM349 (.inl rfl) rfl rfl hS348 (fun w' hr => (ev_fldw (m := 4) rfl rfl (fun w => by simp [go_sem]))) (fun a352 hM351 => ?_)
        clear hM349
        refine h_val 2 rfl (by kernel_rfl) (by kernel_rfl) (by kernel_rfl) hM351 (.inl rfl) rfl rfl hS348 (fun w' hr => (ev_loadm rfl rfl ((HRBT.out.below HB346.out).below hr) Try.underlying36 rfl (by rw [HBT.out]; exact info_bat))) (fun a354 hM353 => ?_)
        clear hM351
        refine h_val 5 rfl (by kernel_rfl) (by kernel_rfl) (by kernel_rfl) hM353 (.inl rfl) rfl rfl hS348 (fun w' hr => (ev_fldw (m := 3) rfl rfl (fun w => by simp [go_sem]))) (fun a356 hM355 => ?_)
        clear hM353
        refine h_val 6 rfl (by kernel_rfl) (by kernel_rfl) (by kernel_rfl) hM355 (.inl rfl) rfl rfl hS348 (fun w' hr => (ev_load1 (v := .int .i64 (x.d)) rfl rfl (((KB8.out.on HB345.out).on hr).rng.at_ (m := 3) (by rw [HC.out]; rfl)) (isAgg_no Try.underlying3 rfl))) (fun a358 hM357 => ?_)
        clear hM355
        refine h_call 3 rfl (by kernel_rfl) hM357 (.inl rfl) rfl rfl (f := 39) (args := #[.agg BT]) (ev_call hM357 rfl rfl rfl (fun w => by simp [go_sem]) _) (by rw [HBT.out]; exact ref4_BatchBytes x.b.a x.b.n _ ((HS.out.below HB344.out)).tx HBM.out) (fun e w359 hp => ?_)
        obtain ⟨v', rfl, ho, hb360⟩ := hp
        obtain ⟨AH, cH, rfl⟩ := own_slice ho
        have HY := hide (Sl.of_own ho)
        clear ho
        have hS363 := s_in hS348 hb360
        refine ⟨_, rfl, fun a362 hM361 => ⟨hS363, ?_⟩⟩
        clear hM357
        have HB364 := hide (below_then HB344.out hb360)
        have HB365 := hide (below_then HB345.out hb360)
        have HB366 := hide (below_then HB346.out hb360)
        have HB367 := hide (below_then HB347.out hb360)
        clear hb360
        have HB369 : Hid (Below w359.heap.size w359 w359) := Below.refl _ _
        refine h_call 4 rfl (by kernel_rfl) hM361 (.inl rfl) rfl rfl (f := 45) (args := #[.pointer (some ⟨g, 0, none⟩), .slice AH ((batchB x.b.a x.b.n x.b.l).length) cH]) (ev_call hM361 rfl rfl rfl (fun w => by simp [go_sem]) _) (ref5_Find (x := batchB x.b.a x.b.n x.b.l) _ (HB.out.below HB364.out) (HY.out.below HB369.out) (by have := batchB_le HBM.out; omega) (hide rfl)) (fun e w370 hp => ?_)
        obtain ⟨rfl, q374, rfl⟩ := hp
        have hb371 : Below w359.heap.size w359 (w359.drewN q374) := below_drewN (Below.refl _ _) q374
        generalize w359.drewN q374 = w370 at hb371 ⊢
        have hS375 := s_in hS363 hb371
        refine ⟨_, rfl, fun a373 hM372 => ⟨hS375, ?_⟩⟩
        clear hM361
        have HB376 := hide (below_then HB364.out hb371)
        have HB377 := hide (below_then HB365.out hb371)
        have HB378 := hide (below_then HB366.out hb371)
        have HB379 := hide (below_then HB367.out hb371)
        have HB380 := hide (below_then HB369.out hb371)
        clear hb371 HB364 HB365 HB366 HB367 HB369
        refine h_val 7 rfl (by kernel_rfl) (by kernel_rfl) (by kernel_rfl) hM372 (.inl rfl) rfl rfl hS375 (fun w' hr => (ev_bin rfl rfl rfl g_int (b_eql (b := true) HI.out))) (fun a382 hM381 => ?_)
        clear hM372
        refine h_val 8 rfl (by kernel_rfl) (by kernel_rfl) (by kernel_rfl) hM381 (.inl rfl) rfl rfl hS375 (fun w' hr => (ev_move (.inl rfl) rfl)) (fun a384 hM383 => ?_)
        clear hM381
        refine h_val 9 rfl (by kernel_rfl) (by kernel_rfl) (by kernel_rfl) hM383 (.inr ⟨_, _, _, rfl, rfl, rfl⟩) rfl rfl hS375 (fun w' hr => (ev_move (.inl rfl) rfl)) (fun a386 hM385 => ?_)
        clear hM383
        refine h_val 10 rfl (by kernel_rfl) (by kernel_rfl) (by kernel_rfl) hM385 (.inr ⟨_, _, _, rfl, rfl, rfl⟩) rfl rfl hS375 (fun w' hr => (ev_fldw (m := 4) rfl rfl (fun w => by simp [go_sem]))) (fun a388 hM387 => ?_)
        clear hM385
        refine h_val 11 rfl (by kernel_rfl) (by kernel_rfl) (by kernel_rfl) hM387 (.inr ⟨_, _, _, rfl, rfl, rfl⟩) rfl rfl hS375 (fun w' hr => (ev_fldw (m := 4) rfl rfl (fun w => by simp [go_sem]))) (fun a390 hM389 => ?_)
        clear hM387
        refine h_val 12 rfl (by kernel_rfl) (by kernel_rfl) (by kernel_rfl) hM389 (.inr ⟨_, _, _, rfl, rfl, rfl⟩) rfl rfl hS375 (fun w' hr => (ev_load1 (v := .int .i64 (x.b.a)) rfl rfl (((HRBT.out.below HB346.out).below hr).at_ (m := 0) (by rw [HBT.out]; rfl)) (isAgg_no Try.underlying3 rfl))) (fun a392 hM391 => ?_)
        clear hM389
        refine h_val 13 rfl (by kernel_rfl) (by kernel_rfl) (by kernel_rfl) hM391 (.inr ⟨_, _, _, rfl, rfl, rfl⟩) rfl rfl hS375 (fun w' hr => (ev_fldw (m := 3) rfl rfl (fun w => by simp [go_sem]))) (fun a394 hM393 => ?_)
        clear hM391
        refine h_val 14 rfl (by kernel_rfl) (by kernel_rfl) (by kernel_rfl) hM393 (.inr ⟨_, _, _, rfl, rfl, rfl⟩) rfl rfl hS375 (fun w' hr => (ev_load1 (v := .int .i64 (x.d)) rfl rfl (((KB8.out.on HB345.out).on hr).rng.at_ (m := 3) (by rw [HC.out]; rfl)) (isAgg_no Try.underlying3 rfl))) (fun a396 hM395 => ?_)
        clear hM393
        refine h_val 15 rfl (by kernel_rfl) (by kernel_rfl) (by kernel_rfl) hM395 (.inr ⟨_, _, _, rfl, rfl, rfl⟩) rfl rfl hS375 (fun w' hr => (ev_move (.inl rfl) rfl)) (fun a398 hM397 => ?_)
        clear hM395
        refine h_call 16 rfl (by kernel_rfl) hM397 (.inr ⟨_, _, _, rfl, rfl, rfl⟩) rfl rfl (f := 46) (args := #[.pointer (some ⟨g, 0, none⟩), .int .i64 (x.b.a), .int .i64 (x.d), .slice A n c]) (ev_call hM397 rfl rfl rfl (fun w => by simp [go_sem]) _) (ref5_by x.b.a x.d _ (HB.out.below HB376.out) (HL.out.below HB376.out) hn HBY) (fun e w399 hp => ?_)
        obtain ⟨rfl, rfl⟩ := hp
        refine ⟨_, rfl, fun a402 hM401 => ⟨hS375, ?_⟩⟩
        clear hM397
        refine h_val 17 rfl (by kernel_rfl) (by kernel_rfl) (by kernel_rfl) hM401 (.inl rfl) rfl rfl hS375 (fun w' hr => (ev_pick rfl rfl rfl)) (fun a404 hM403 => ?_)
        clear hM401
        refine h_val 18 rfl (by kernel_rfl) (by kernel_rfl) (by kernel_rfl) hM403 (.inl rfl) rfl rfl hS375 (fun w' hr => (ev_move (.inr rfl) rfl)) (fun a406 hM405 => ?_)
        clear hM403
        refine h_nil (by kernel_rfl) (hK341 _ _ ?_)
        clear hK341 K341 hS375 HB344 HB345 HB346 HB347
        have hM407 := hM405.cut5 (t1 := 0) (t2 := 1) (t3 := 2) (t4 := 7) (t5 := 9) rfl rfl rfl rfl rfl
        clear hM405
        refine inb_n ?_
        refine hK54 _ _ ?_
        refine wp_seq_k fun K408 hK408 => ?_
        have HV : Hid (rr = rr) := hide rfl
        clear HV
        cases rr
        case true =>
          simp only [Bool.false_eq_true, if_false, if_true] at HE
          refine region_then fun K409 QK409 hK409 => ?_
          refine s_val hM407 (.inl rfl) rfl rfl (ev_move (.inl rfl) rfl) (fun a411 hM410 => ?_)
          clear hM407
          refine s_val hM410 (.inl rfl) rfl rfl (ev_not rfl rfl rfl) (fun a413 hM412 => ?_)
          clear hM410
          refine seg_nil (hK409 _ _ ?_)
          clear hK409 K409 QK409
          have hM414 := hM412.cut1 (t1 := 130) rfl
          clear hM412
          refine wp_cond_false (hM414.ev (t := 130) rfl) ?_
          refine wp_skip ?_
          refine hK408 _ _ ?_
          refine region_then fun K415 QK415 hK415 => ?_
          refine s_val hM414 (.inl rfl) rfl rfl (ev_move (.inr rfl) rfl) (fun a417 hM416 => ?_)
          clear hM414
          refine seg_nil (hK415 _ _ ?_)
          clear hK415 K415 QK415
          have hM418 := hM416.cut1 (t1 := 8) rfl
          clear hM416
          refine wp_ret ?_
          repeat (with_reducible first | refine th_r ?_ | refine inb_r ?_ | refine js_r ?_)
          refine ret_of (t := 8) rfl hM418 rfl ?_
          first | exact ⟨ret_int HE, HB376.out⟩ | exact ⟨ret_int HE.out, HB376.out⟩
        case false =>
          simp only [Bool.false_eq_true, if_false, if_true] at HE
          refine region_then fun K419 QK419 hK419 => ?_
          refine s_val hM407 (.inl rfl) rfl rfl (ev_move (.inl rfl) rfl) (fun a421 hM420 => ?_)
          clear hM407
          refine s_val hM420 (.inl rfl) rfl rfl (ev_not rfl rfl rfl) (fun a423 hM422 => ?_)
          clear hM420
          refine seg_nil (hK419 _ _ ?_)
          clear hK419 K419 QK419
          have hM424 := hM422.cut1 (t1 := 130) rfl
          clear hM422
          refine wp_cond_true (hM424.ev (t := 130) rfl) ?_
          refine region_then fun K425 QK425 hK425 => ?_
          refine s_val hM424 (.inl rfl) rfl rfl (ev_move (.inr rfl) rfl) (fun a427 hM426 => ?_)
          clear hM424
          refine seg_nil (hK425 _ _ ?_)
          clear hK425 K425 QK425
          have hM428 := hM426.cut1 (t1 := 8) rfl
          clear hM426
          refine wp_ret ?_
          repeat (with_reducible first | refine th_r ?_ | refine inb_r ?_ | refine js_r ?_)
          refine ret_of (t := 8) rfl hM428 rfl ?_
          first | exact ⟨ret_int HE, HB376.out⟩ | exact ⟨ret_int HE.out, HB376.out⟩
      case false =>
        have HNO := HR
        rw [Bool.false_and] at HNO
        have HNO := hide HNO.symm
        refine h_open_end 19 rfl (by kernel_rfl) fun K429 w430 hb431 hK429 => ?_
        have HB432 := hide (below_then HB45.out hb431)
        have HB433 := hide (below_then HB46.out hb431)
        have HB434 := hide (below_then HB326.out hb431)
        have HB435 := hide (below_then HB328.out hb431)
        clear hb431 HB45 HB46 HB326 HB328
        have hS436 : Below w430.heap.size w430 w430 := Below.refl _ _
        refine h_val 0 rfl (by kernel_rfl) (by kernel_rfl) (by kernel_rfl) hM340 (.inl rfl) rfl rfl hS436 (fun w' hr => (ev_move (.inl rfl) rfl)) (fun a438 hM437 => ?_)
        clear hM340
        refine h_val 1 rfl (by kernel_rfl) (by kernel_rfl) (by kernel_rfl) hM437 (.inl rfl) rfl rfl hS436 (fun w' hr => (ev_fldw (m := 4) rfl rfl (fun w => by simp [go_sem]))) (fun a440 hM439 => ?_)
        clear hM437
        refine h_val 2 rfl (by kernel_rfl) (by kernel_rfl) (by kernel_rfl) hM439 (.inl rfl) rfl rfl hS436 (fun w' hr => (ev_loadm rfl rfl ((HRBT.out.below HB434.out).below hr) Try.underlying36 rfl (by rw [HBT.out]; exact info_bat))) (fun a442 hM441 => ?_)
        clear hM439
        refine h_val 5 rfl (by kernel_rfl) (by kernel_rfl) (by kernel_rfl) hM441 (.inl rfl) rfl rfl hS436 (fun w' hr => (ev_fldw (m := 3) rfl rfl (fun w => by simp [go_sem]))) (fun a444 hM443 => ?_)
        clear hM441
        refine h_val 6 rfl (by kernel_rfl) (by kernel_rfl) (by kernel_rfl) hM443 (.inl rfl) rfl rfl hS436 (fun w' hr => (ev_load1 (v := .int .i64 (x.d)) rfl rfl (((KB8.out.on HB433.out).on hr).rng.at_ (m := 3) (by rw [HC.out]; rfl)) (isAgg_no Try.underlying3 rfl))) (fun a446 hM445 => ?_)
        clear hM443
        refine h_call 3 rfl (by kernel_rfl) hM445 (.inl rfl) rfl rfl (f := 39) (args := #[.agg BT]) (ev_call hM445 rfl rfl rfl (fun w => by simp [go_sem]) _) (by rw [HBT.out]; exact ref4_BatchBytes x.b.a x.b.n _ ((HS.out.below HB432.out)).tx HBM.out) (fun e w447 hp => ?_)
        obtain ⟨v', rfl, ho, hb448⟩ := hp
        obtain ⟨AH, cH, rfl⟩ := own_slice ho
        have HY := hide (Sl.of_own ho)
        clear ho
        have hS451 := s_in hS436 hb448
        refine ⟨_, rfl, fun a450 hM449 => ⟨hS451, ?_⟩⟩
        clear hM445
        have HB452 := hide (below_then HB432.out hb448)
        have HB453 := hide (below_then HB433.out hb448)
        have HB454 := hide (below_then HB434.out hb448)
        have HB455 := hide (below_then HB435.out hb448)
        clear hb448
        have HB457 : Hid (Below w447.heap.size w447 w447) := Below.refl _ _
        refine h_call 4 rfl (by kernel_rfl) hM449 (.inl rfl) rfl rfl (f := 45) (args := #[.pointer (some ⟨g, 0, none⟩), .slice AH ((batchB x.b.a x.b.n x.b.l).length) cH]) (ev_call hM449 rfl rfl rfl (fun w => by simp [go_sem]) _) (ref5_Find (x := batchB x.b.a x.b.n x.b.l) _ (HB.out.below HB452.out) (HY.out.below HB457.out) (by have := batchB_le HBM.out; omega) (hide rfl)) (fun e w458 hp => ?_)
        obtain ⟨rfl, q462, rfl⟩ := hp
        have hb459 : Below w447.heap.size w447 (w447.drewN q462) := below_drewN (Below.refl _ _) q462
        generalize w447.drewN q462 = w458 at hb459 ⊢
        have hS463 := s_in hS451 hb459
        refine ⟨_, rfl, fun a461 hM460 => ⟨hS463, ?_⟩⟩
        clear hM449
        have HB464 := hide (below_then HB452.out hb459)
        have HB465 := hide (below_then HB453.out hb459)
        have HB466 := hide (below_then HB454.out hb459)
        have HB467 := hide (below_then HB455.out hb459)
        have HB468 := hide (below_then HB457.out hb459)
        clear hb459 HB452 HB453 HB454 HB455 HB457
        refine h_val 7 rfl (by kernel_rfl) (by kernel_rfl) (by kernel_rfl) hM460 (.inl rfl) rfl rfl hS463 (fun w' hr => (ev_bin rfl rfl rfl g_int (b_eql (b := false) HI.out))) (fun a470 hM469 => ?_)
        clear hM460
        refine h_val 8 rfl (by kernel_rfl) (by kernel_rfl) (by kernel_rfl) hM469 (.inl rfl) rfl rfl hS463 (fun w' hr => (ev_move (.inl rfl) rfl)) (fun a472 hM471 => ?_)
        clear hM469
        refine h_skip 9 rfl (by kernel_rfl) (by kernel_rfl) (by kernel_rfl) hM471 rfl rfl rfl rfl rfl rfl hS463 (fun a474 hM473 => ?_)
        clear hM471
        refine h_skip 10 rfl (by kernel_rfl) (by kernel_rfl) (by kernel_rfl) hM473 rfl rfl rfl rfl rfl rfl hS463 (fun a476 hM475 => ?_)
        clear hM473
        refine h_skip 11 rfl (by kernel_rfl) (by kernel_rfl) (by kernel_rfl) hM475 rfl rfl rfl rfl rfl rfl hS463 (fun a478 hM477 => ?_)
        clear hM475
        refine h_skip 12 rfl (by kernel_rfl) (by kernel_rfl) (by kernel_rfl) hM477 rfl rfl rfl rfl rfl rfl hS463 (fun a480 hM479 => ?_)
        clear hM477
        refine h_skip 13 rfl (by kernel_rfl) (by kernel_rfl) (by kernel_rfl) hM479 rfl rfl rfl rfl rfl rfl hS463 (fun a482 hM481 => ?_)
        clear hM479
        refine h_skip 14 rfl (by kernel_rfl) (by kernel_rfl) (by kernel_rfl) hM481 rfl rfl rfl rfl rfl rfl hS463 (fun a484 hM483 => ?_)
        clear hM481
        refine h_skip 15 rfl (by kernel_rfl) (by kernel_rfl) (by kernel_rfl) hM483 rfl rfl rfl rfl rfl rfl hS463 (fun a486 hM485 => ?_)
        clear hM483
        refine h_skip 16 rfl (by kernel_rfl) (by kernel_rfl) (by kernel_rfl) hM485 rfl rfl rfl rfl rfl rfl hS463 (fun a488 hM487 => ?_)
        clear hM485
        refine h_val 17 rfl (by kernel_rfl) (by kernel_rfl) (by kernel_rfl) hM487 (.inl rfl) rfl rfl hS463 (fun w' hr => (ev_pick rfl rfl rfl)) (fun a490 hM489 => ?_)
        clear hM487
        refine h_val 18 rfl (by kernel_rfl) (by kernel_rfl) (by kernel_rfl) hM489 (.inl rfl) rfl rfl hS463 (fun w' hr => (ev_move (.inr rfl) rfl)) (fun a492 hM491 => ?_)
        clear hM489
        refine h_nil (by kernel_rfl) (hK429 _ _ ?_)
        clear hK429 K429 hS463 HB432 HB433 HB434 HB435
        have hM493 := hM491.cut5 (t1 := 0) (t2 := 1) (t3 := 2) (t4 := 7) (t5 := 9) rfl rfl rfl rfl rfl
        clear hM491
        refine inb_n ?_
        refine hK54 _ _ ?_
        refine wp_seq_k fun K494 hK494 => ?_
        have HV : Hid (false = rr) := hide HNO.out.symm
        rw [HV.out] at hM493
        cases rr
        case true =>
          simp only [Bool.false_eq_true, if_false, if_true] at HE
          refine region_then fun K495 QK495 hK495 => ?_
          refine s_val hM493 (.inl rfl) rfl rfl (ev_move (.inl rfl) rfl) (fun a497 hM496 => ?_)
          clear hM493
          refine s_val hM496 (.inl rfl) rfl rfl (ev_not rfl rfl rfl) (fun a499 hM498 => ?_)
          clear hM496
          refine seg_nil (hK495 _ _ ?_)
          clear hK495 K495 QK495
          have hM500 := hM498.cut1 (t1 := 130) rfl
          clear hM498
          refine wp_cond_false (hM500.ev (t := 130) rfl) ?_
          refine wp_skip ?_
          refine hK494 _ _ ?_
          refine region_then fun K501 QK501 hK501 => ?_
          refine s_val hM500 (.inl rfl) rfl rfl (ev_move (.inr rfl) rfl) (fun a503 hM502 => ?_)
          clear hM500
          refine seg_nil (hK501 _ _ ?_)
          clear hK501 K501 QK501
          have hM504 := hM502.cut1 (t1 := 8) rfl
          clear hM502
          refine wp_ret ?_
          repeat (with_reducible first | refine th_r ?_ | refine inb_r ?_ | refine js_r ?_)
          refine ret_of (t := 8) rfl hM504 rfl ?_
          first | exact ⟨ret_int HE, HB464.out⟩ | exact ⟨ret_int HE.out, HB464.out⟩
        case false =>
          simp only [Bool.false_eq_true, if_false, if_true] at HE
          refine region_then fun K505 QK505 hK505 => ?_
          refine s_val hM493 (.inl rfl) rfl rfl (ev_move (.inl rfl) rfl) (fun a507 hM506 => ?_)
          clear hM493
          refine s_val hM506 (.inl rfl) rfl rfl (ev_not rfl rfl rfl) (fun a509 hM508 => ?_)
          clear hM506
          refine seg_nil (hK505 _ _ ?_)
          clear hK505 K505 QK505
          have hM510 := hM508.cut1 (t1 := 130) rfl
          clear hM508
          refine wp_cond_true (hM510.ev (t := 130) rfl) ?_
          refine region_then fun K511 QK511 hK511 => ?_
          refine s_val hM510 (.inl rfl) rfl rfl (ev_move (.inr rfl) rfl) (fun a513 hM512 => ?_)
          clear hM510
          refine seg_nil (hK511 _ _ ?_)
          clear hK511 K511 QK511
          have hM514 := hM512.cut1 (t1 := 8) rfl
          clear hM512
          refine wp_ret ?_
          repeat (with_reducible first | refine th_r ?_ | refine inb_r ?_ | refine js_r ?_)
          refine ret_of (t := 8) rfl hM514 rfl ?_
          first | exact ⟨ret_int HE, HB464.out⟩ | exact ⟨ret_int HE.out, HB464.out⟩
    · skip
      have HR := hr.out
      rw [real_4 hk] at HR
      have HR := hide HR
      have HD1 := hide (may_d HM.out (by omega)).1
      have HF := hide (may_h HM.out hk)
      have HK := hide hk
      clear hk
      obtain ⟨HD, HHD⟩ : ∃ C : Array Value, Hid (C = hdC x v) := ⟨_, rfl⟩
      have HRHD : Hid (Rng w41 g4 7 HD) := (((KB8.out.on HB46.out)).rng).sub 7 (sub_hd HC.out HHD.out)
      have HB516 : Hid (Below w41.heap.size w41 w41) := Below.refl _ _
      obtain ⟨AL, cL, -, -, -, -, k0, -, -, hl0, -⟩ := ((HB.out.below HB45.out)).open_
      have HCL := hide (CellAt.of k0)
      clear k0
      have HB518 : Hid (Below w41.heap.size w41 w41) := Below.refl _ _
      refine region_then fun K519 QK519 hK519 => ?_
      refine s_val hM60 (.inl rfl) rfl rfl (ev_bin rfl rfl rfl g_int (b_eql (b := false) (by have := HK.out; simp [this]))) (fun a521 hM520 => ?_)
      clear hM60
      refine s_val hM520 (.inl rfl) rfl rfl (ev_move (.inr rfl) rfl) (fun a523 hM522 => ?_)
      clear hM520
      refine seg_nil (hK519 _ _ ?_)
      clear hK519 K519 QK519
      have hM524 := hM522.cut7 (t1 := 0) (t2 := 1) (t3 := 2) (t4 := 7) (t5 := 9) (t6 := 16) (t7 := 25) rfl rfl rfl rfl rfl rfl rfl
      clear hM522
      refine wp_cond_false (hM524.ev (t := 25) rfl) ?_
      refine region_last fun K525 QK525 hK525 => ?_
      refine s_val hM524 (.inl rfl) rfl rfl (ev_bin rfl rfl rfl g_int (b_eql (b := false) (by have := HK.out; simp [this]))) (fun a527 hM526 => ?_)
      clear hM524
      refine s_val hM526 (.inl rfl) rfl rfl (ev_move (.inr rfl) rfl) (fun a529 hM528 => ?_)
      clear hM526
      refine seg_nil (hK525 _ _ ?_)
      clear hK525 K525 QK525
      have hM530 := hM528.cut7 (t1 := 0) (t2 := 1) (t3 := 2) (t4 := 7) (t5 := 9) (t6 := 16) (t7 := 25) rfl rfl rfl rfl rfl rfl rfl
      clear hM528
      refine hK61 _ _ ?_
      refine wp_cond_false (hM530.ev (t := 25) rfl) ?_
      refine region_then fun K531 QK531 hK531 => ?_
      refine s_val hM530 (.inl rfl) rfl rfl (ev_bin rfl rfl rfl g_int (b_eql (b := true) (decide_eq_true HK.out))) (fun a533 hM532 => ?_)
      clear hM530
      refine s_val hM532 (.inl rfl) rfl rfl (ev_move (.inr rfl) rfl) (fun a535 hM534 => ?_)
      clear hM532
      refine seg_nil (hK531 _ _ ?_)
      clear hK531 K531 QK531
      have hM536 := hM534.cut8 (t1 := 0) (t2 := 1) (t3 := 2) (t4 := 7) (t5 := 9) (t6 := 16) (t7 := 25) (t8 := 46) rfl rfl rfl rfl rfl rfl rfl rfl
      clear hM534
      refine wp_cond_true (hM536.ev (t := 46) rfl) ?_
      obtain ⟨q, HI⟩ : ∃ q, Hid (isB L x.d (headerB x.h) = q) := ⟨_, rfl⟩
      rw [HI.out] at HR
      cases q
      case true =>
        have HBY := HR
        rw [Bool.true_and] at HBY
        refine h_open_end 18 rfl (by kernel_rfl) fun K537 w538 hb539 hK537 => ?_
        have HB540 := hide (below_then HB45.out hb539)
        have HB541 := hide (below_then HB46.out hb539)
        have HB542 := hide (below_then HB516.out hb539)
        have HB543 := hide (below_then HB518.out hb539)
        clear hb539 HB45 HB46 HB516 HB518
        have hS544 : Below w538.heap.size w538 w538 := Below.refl _ _
        refine h_val 0 rfl (by kernel_rfl) (by kernel_rfl) (by kernel_rfl) hM536 (.inl rfl) rfl rfl hS544 (fun w' hr => (ev_move (.inl rfl) rfl)) (fun a546 hM545 => ?_)
        clear hM536
        refine h_val 1 rfl (by kernel_rfl) (by kernel_rfl) (by kernel_rfl) hM545 (.inl rfl) rfl rfl hS544 (fun w' hr => (ev_fldw (m := 7) rfl rfl (fun w => by simp [go_sem]))) (fun a548 hM547 => ?_)
        clear hM545
        refine h_val 2 rfl (by kernel_rfl) (by kernel_rfl) (by kernel_rfl) hM547 (.inl rfl) rfl rfl hS544 (fun w' hr => (ev_loadm rfl rfl ((HRHD.out.below HB542.out).below hr) Try.underlying38 rfl (by rw [HHD.out]; exact info_hdr))) (fun a550 hM549 => ?_)
        clear hM547
        refine h_val 5 rfl (by kernel_rfl) (by kernel_rfl) (by kernel_rfl) hM549 (.inl rfl) rfl rfl hS544 (fun w' hr => (ev_fldw (m := 3) rfl rfl (fun w => by simp [go_sem]))) (fun a552 hM551 => ?_)
        clear hM549
        refine h_val 6 rfl (by kernel_rfl) (by kernel_rfl) (by kernel_rfl) hM551 (.inl rfl) rfl rfl hS544 (fun w' hr => (ev_load1 (v := .int .i64 (x.d)) rfl rfl (((KB8.out.on HB541.out).on hr).rng.at_ (m := 3) (by rw [HC.out]; rfl)) (isAgg_no Try.underlying3 rfl))) (fun a554 hM553 => ?_)
        clear hM551
        refine h_call 3 rfl (by kernel_rfl) hM553 (.inl rfl) rfl rfl (f := 31) (args := #[.agg HD]) (ev_call hM553 rfl rfl rfl (fun w => by simp [go_sem]) _) (by rw [HHD.out]; exact ref4_HeaderBytes x.h _ ((HS.out.below HB540.out)).hb ((HS.out.below HB540.out)).hp HF) (fun e w555 hp => ?_)
        obtain ⟨v', rfl, ho, hb556⟩ := hp
        obtain ⟨AH, cH, rfl⟩ := own_slice ho
        have HY := hide (Sl.of_own ho)
        clear ho
        have hS559 := s_in hS544 hb556
        refine ⟨_, rfl, fun a558 hM557 => ⟨hS559, ?_⟩⟩
        clear hM553
        have HB560 := hide (below_then HB540.out hb556)
        have HB561 := hide (below_then HB541.out hb556)
        have HB562 := hide (below_then HB542.out hb556)
        have HB563 := hide (below_then HB543.out hb556)
        clear hb556
        have HB565 : Hid (Below w555.heap.size w555 w555) := Below.refl _ _
        refine h_call 4 rfl (by kernel_rfl) hM557 (.inl rfl) rfl rfl (f := 45) (args := #[.pointer (some ⟨g, 0, none⟩), .slice AH ((headerB x.h).length) cH]) (ev_call hM557 rfl rfl rfl (fun w => by simp [go_sem]) _) (ref5_Find (x := headerB x.h) _ (HB.out.below HB560.out) (HY.out.below HB565.out) (by have := headerB_le HF.out; omega) (hide rfl)) (fun e w566 hp => ?_)
        obtain ⟨rfl, q570, rfl⟩ := hp
        have hb567 : Below w555.heap.size w555 (w555.drewN q570) := below_drewN (Below.refl _ _) q570
        generalize w555.drewN q570 = w566 at hb567 ⊢
        have hS571 := s_in hS559 hb567
        refine ⟨_, rfl, fun a569 hM568 => ⟨hS571, ?_⟩⟩
        clear hM557
        have HB572 := hide (below_then HB560.out hb567)
        have HB573 := hide (below_then HB561.out hb567)
        have HB574 := hide (below_then HB562.out hb567)
        have HB575 := hide (below_then HB563.out hb567)
        have HB576 := hide (below_then HB565.out hb567)
        clear hb567 HB560 HB561 HB562 HB563 HB565
        refine h_val 7 rfl (by kernel_rfl) (by kernel_rfl) (by kernel_rfl) hM568 (.inl rfl) rfl rfl hS571 (fun w' hr => (ev_bin rfl rfl rfl g_int (b_eql (b := true) HI.out))) (fun a578 hM577 => ?_)
        clear hM568
        refine h_val 8 rfl (by kernel_rfl) (by kernel_rfl) (by kernel_rfl) hM577 (.inl rfl) rfl rfl hS571 (fun w' hr => (ev_move (.inl rfl) rfl)) (fun a580 hM579 => ?_)
        clear hM577
        refine h_val 9 rfl (by kernel_rfl) (by kernel_rfl) (by kernel_rfl) hM579 (.inr ⟨_, _, _, rfl, rfl, rfl⟩) rfl rfl hS571 (fun w' hr => (ev_move (.inl rfl) rfl)) (fun a582 hM581 => ?_)
        clear hM579
        refine h_val 10 rfl (by kernel_rfl) (by kernel_rfl) (by kernel_rfl) hM581 (.inr ⟨_, _, _, rfl, rfl, rfl⟩) rfl rfl hS571 (fun w' hr => (ev_fldw (m := 1) rfl rfl (fun w => by simp [go_sem]))) (fun a584 hM583 => ?_)
        clear hM581
        refine h_val 11 rfl (by kernel_rfl) (by kernel_rfl) (by kernel_rfl) hM583 (.inr ⟨_, _, _, rfl, rfl, rfl⟩) rfl rfl hS571 (fun w' hr => (ev_load1 (v := .int .i64 (x.f)) rfl rfl (((KB8.out.on HB541.out).on hr).rng.at_ (m := 1) (by rw [HC.out]; rfl)) (isAgg_no Try.underlying3 rfl))) (fun a586 hM585 => ?_)
        clear hM583
        refine h_val 12 rfl (by kernel_rfl) (by kernel_rfl) (by kernel_rfl) hM585 (.inr ⟨_, _, _, rfl, rfl, rfl⟩) rfl rfl hS571 (fun w' hr => (ev_fldw (m := 3) rfl rfl (fun w => by simp [go_sem]))) (fun a588 hM587 => ?_)
        clear hM585
        refine h_val 13 rfl (by kernel_rfl) (by kernel_rfl) (by kernel_rfl) hM587 (.inr ⟨_, _, _, rfl, rfl, rfl⟩) rfl rfl hS571 (fun w' hr => (ev_load1 (v := .int .i64 (x.d)) rfl rfl (((KB8.out.on HB541.out).on hr).rng.at_ (m := 3) (by rw [HC.out]; rfl)) (isAgg_no Try.underlying3 rfl))) (fun a590 hM589 => ?_)
        clear hM587
        refine h_val 14 rfl (by kernel_rfl) (by kernel_rfl) (by kernel_rfl) hM589 (.inr ⟨_, _, _, rfl, rfl, rfl⟩) rfl rfl hS571 (fun w' hr => (ev_move (.inl rfl) rfl)) (fun a592 hM591 => ?_)
        clear hM589
        refine h_call 15 rfl (by kernel_rfl) hM591 (.inr ⟨_, _, _, rfl, rfl, rfl⟩) rfl rfl (f := 46) (args := #[.pointer (some ⟨g, 0, none⟩), .int .i64 (x.f), .int .i64 (x.d), .slice A n c]) (ev_call hM591 rfl rfl rfl (fun w => by simp [go_sem]) _) (ref5_by x.f x.d _ (HB.out.below HB572.out) (HL.out.below HB572.out) hn HBY) (fun e w593 hp => ?_)
        obtain ⟨rfl, rfl⟩ := hp
        refine ⟨_, rfl, fun a596 hM595 => ⟨hS571, ?_⟩⟩
        clear hM591
        refine h_val 16 rfl (by kernel_rfl) (by kernel_rfl) (by kernel_rfl) hM595 (.inl rfl) rfl rfl hS571 (fun w' hr => (ev_pick rfl rfl rfl)) (fun a598 hM597 => ?_)
        clear hM595
        refine h_val 17 rfl (by kernel_rfl) (by kernel_rfl) (by kernel_rfl) hM597 (.inl rfl) rfl rfl hS571 (fun w' hr => (ev_move (.inr rfl) rfl)) (fun a600 hM599 => ?_)
        clear hM597
        refine h_nil (by kernel_rfl) (hK537 _ _ ?_)
        clear hK537 K537 hS571 HB540 HB541 HB542 HB543
        have hM601 := hM599.cut5 (t1 := 0) (t2 := 1) (t3 := 2) (t4 := 7) (t5 := 9) rfl rfl rfl rfl rfl
        clear hM599
        refine inb_n ?_
        refine hK54 _ _ ?_
        refine wp_seq_k fun K602 hK602 => ?_
        have HV : Hid (rr = rr) := hide rfl
        clear HV
        cases rr
        case true =>
          simp only [Bool.false_eq_true, if_false, if_true] at HE
          refine region_then fun K603 QK603 hK603 => ?_
          refine s_val hM601 (.inl rfl) rfl rfl (ev_move (.inl rfl) rfl) (fun a605 hM604 => ?_)
          clear hM601
          refine s_val hM604 (.inl rfl) rfl rfl (ev_not rfl rfl rfl) (fun a607 hM606 => ?_)
          clear hM604
          refine seg_nil (hK603 _ _ ?_)
          clear hK603 K603 QK603
          have hM608 := hM606.cut1 (t1 := 130) rfl
          clear hM606
          refine wp_cond_false (hM608.ev (t := 130) rfl) ?_
          refine wp_skip ?_
          refine hK602 _ _ ?_
          refine region_then fun K609 QK609 hK609 => ?_
          refine s_val hM608 (.inl rfl) rfl rfl (ev_move (.inr rfl) rfl) (fun a611 hM610 => ?_)
          clear hM608
          refine seg_nil (hK609 _ _ ?_)
          clear hK609 K609 QK609
          have hM612 := hM610.cut1 (t1 := 8) rfl
          clear hM610
          refine wp_ret ?_
          repeat (with_reducible first | refine th_r ?_ | refine inb_r ?_ | refine js_r ?_)
          refine ret_of (t := 8) rfl hM612 rfl ?_
          first | exact ⟨ret_int HE, HB572.out⟩ | exact ⟨ret_int HE.out, HB572.out⟩
        case false =>
          simp only [Bool.false_eq_true, if_false, if_true] at HE
          refine region_then fun K613 QK613 hK613 => ?_
          refine s_val hM601 (.inl rfl) rfl rfl (ev_move (.inl rfl) rfl) (fun a615 hM614 => ?_)
          clear hM601
          refine s_val hM614 (.inl rfl) rfl rfl (ev_not rfl rfl rfl) (fun a617 hM616 => ?_)
          clear hM614
          refine seg_nil (hK613 _ _ ?_)
          clear hK613 K613 QK613
          have hM618 := hM616.cut1 (t1 := 130) rfl
          clear hM616
          refine wp_cond_true (hM618.ev (t := 130) rfl) ?_
          refine region_then fun K619 QK619 hK619 => ?_
          refine s_val hM618 (.inl rfl) rfl rfl (ev_move (.inr rfl) rfl) (fun a621 hM620 => ?_)
          clear hM618
          refine seg_nil (hK619 _ _ ?_)
          clear hK619 K619 QK619
          have hM622 := hM620.cut1 (t1 := 8) rfl
          clear hM620
          refine wp_ret ?_
          repeat (with_reducible first | refine th_r ?_ | refine inb_r ?_ | refine js_r ?_)
          refine ret_of (t := 8) rfl hM622 rfl ?_
          first | exact ⟨ret_int HE, HB572.out⟩ | exact ⟨ret_int HE.out, HB572.out⟩
      case false =>
        have HNO := HR
        rw [Bool.false_and] at HNO
        have HNO := hide HNO.symm
        refine h_open_end 18 rfl (by kernel_rfl) fun K623 w624 hb625 hK623 => ?_
        have HB626 := hide (below_then HB45.out hb625)
        have HB627 := hide (below_then HB46.out hb625)
        have HB628 := hide (below_then HB516.out hb625)
        have HB629 := hide (below_then HB518.out hb625)
        clear hb625 HB45 HB46 HB516 HB518
        have hS630 : Below w624.heap.size w624 w624 := Below.refl _ _
        refine h_val 0 rfl (by kernel_rfl) (by kernel_rfl) (by kernel_rfl) hM536 (.inl rfl) rfl rfl hS630 (fun w' hr => (ev_move (.inl rfl) rfl)) (fun a632 hM631 => ?_)
        clear hM536
        refine h_val 1 rfl (by kernel_rfl) (by kernel_rfl) (by kernel_rfl) hM631 (.inl rfl) rfl rfl hS630 (fun w' hr => (ev_fldw (m := 7) rfl rfl (fun w => by simp [go_sem]))) (fun a634 hM633 => ?_)
        clear hM631
        refine h_val 2 rfl (by kernel_rfl) (by kernel_rfl) (by kernel_rfl) hM633 (.inl rfl) rfl rfl hS630 (fun w' hr => (ev_loadm rfl rfl ((HRHD.out.below HB628.out).below hr) Try.underlying38 rfl (by rw [HHD.out]; exact info_hdr))) (fun a636 hM635 => ?_)
        clear hM633
        refine h_val 5 rfl (by kernel_rfl) (by kernel_rfl) (by kernel_rfl) hM635 (.inl rfl) rfl rfl hS630 (fun w' hr => (ev_fldw (m := 3) rfl rfl (fun w => by simp [go_sem]))) (fun a638 hM637 => ?_)
        clear hM635
        refine h_val 6 rfl (by kernel_rfl) (by kernel_rfl) (by kernel_rfl) hM637 (.inl rfl) rfl rfl hS630 (fun w' hr => (ev_load1 (v := .int .i64 (x.d)) rfl rfl (((KB8.out.on HB627.out).on hr).rng.at_ (m := 3) (by rw [HC.out]; rfl)) (isAgg_no Try.underlying3 rfl))) (fun a640 hM639 => ?_)
        clear hM637
        refine h_call 3 rfl (by kernel_rfl) hM639 (.inl rfl) rfl rfl (f := 31) (args := #[.agg HD]) (ev_call hM639 rfl rfl rfl (fun w => by simp [go_sem]) _) (by rw [HHD.out]; exact ref4_HeaderBytes x.h _ ((HS.out.below HB626.out)).hb ((HS.out.below HB626.out)).hp HF) (fun e w641 hp => ?_)
        obtain ⟨v', rfl, ho, hb642⟩ := hp
        obtain ⟨AH, cH, rfl⟩ := own_slice ho
        have HY := hide (Sl.of_own ho)
        clear ho
        have hS645 := s_in hS630 hb642
        refine ⟨_, rfl, fun a644 hM643 => ⟨hS645, ?_⟩⟩
        clear hM639
        have HB646 := hide (below_then HB626.out hb642)
        have HB647 := hide (below_then HB627.out hb642)
        have HB648 := hide (below_then HB628.out hb642)
        have HB649 := hide (below_then HB629.out hb642)
        clear hb642
        have HB651 : Hid (Below w641.heap.size w641 w641) := Below.refl _ _
        refine h_call 4 rfl (by kernel_rfl) hM643 (.inl rfl) rfl rfl (f := 45) (args := #[.pointer (some ⟨g, 0, none⟩), .slice AH ((headerB x.h).length) cH]) (ev_call hM643 rfl rfl rfl (fun w => by simp [go_sem]) _) (ref5_Find (x := headerB x.h) _ (HB.out.below HB646.out) (HY.out.below HB651.out) (by have := headerB_le HF.out; omega) (hide rfl)) (fun e w652 hp => ?_)
        obtain ⟨rfl, q656, rfl⟩ := hp
        have hb653 : Below w641.heap.size w641 (w641.drewN q656) := below_drewN (Below.refl _ _) q656
        generalize w641.drewN q656 = w652 at hb653 ⊢
        have hS657 := s_in hS645 hb653
        refine ⟨_, rfl, fun a655 hM654 => ⟨hS657, ?_⟩⟩
        clear hM643
        have HB658 := hide (below_then HB646.out hb653)
        have HB659 := hide (below_then HB647.out hb653)
        have HB660 := hide (below_then HB648.out hb653)
        have HB661 := hide (below_then HB649.out hb653)
        have HB662 := hide (below_then HB651.out hb653)
        clear hb653 HB646 HB647 HB648 HB649 HB651
        refine h_val 7 rfl (by kernel_rfl) (by kernel_rfl) (by kernel_rfl) hM654 (.inl rfl) rfl rfl hS657 (fun w' hr => (ev_bin rfl rfl rfl g_int (b_eql (b := false) HI.out))) (fun a664 hM663 => ?_)
        clear hM654
        refine h_val 8 rfl (by kernel_rfl) (by kernel_rfl) (by kernel_rfl) hM663 (.inl rfl) rfl rfl hS657 (fun w' hr => (ev_move (.inl rfl) rfl)) (fun a666 hM665 => ?_)
        clear hM663
        refine h_skip 9 rfl (by kernel_rfl) (by kernel_rfl) (by kernel_rfl) hM665 rfl rfl rfl rfl rfl rfl hS657 (fun a668 hM667 => ?_)
        clear hM665
        refine h_skip 10 rfl (by kernel_rfl) (by kernel_rfl) (by kernel_rfl) hM667 rfl rfl rfl rfl rfl rfl hS657 (fun a670 hM669 => ?_)
        clear hM667
        refine h_skip 11 rfl (by kernel_rfl) (by kernel_rfl) (by kernel_rfl) hM669 rfl rfl rfl rfl rfl rfl hS657 (fun a672 hM671 => ?_)
        clear hM669
        refine h_skip 12 rfl (by kernel_rfl) (by kernel_rfl) (by kernel_rfl) hM671 rfl rfl rfl rfl rfl rfl hS657 (fun a674 hM673 => ?_)
        clear hM671
        refine h_skip 13 rfl (by kernel_rfl) (by kernel_rfl) (by kernel_rfl) hM673 rfl rfl rfl rfl rfl rfl hS657 (fun a676 hM675 => ?_)
        clear hM673
        refine h_skip 14 rfl (by kernel_rfl) (by kernel_rfl) (by kernel_rfl) hM675 rfl rfl rfl rfl rfl rfl hS657 (fun a678 hM677 => ?_)
        clear hM675
        refine h_skip 15 rfl (by kernel_rfl) (by kernel_rfl) (by kernel_rfl) hM677 rfl rfl rfl rfl rfl rfl hS657 (fun a680 hM679 => ?_)
        clear hM677
        refine h_val 16 rfl (by kernel_rfl) (by kernel_rfl) (by kernel_rfl) hM679 (.inl rfl) rfl rfl hS657 (fun w' hr => (ev_pick rfl rfl rfl)) (fun a682 hM681 => ?_)
        clear hM679
        refine h_val 17 rfl (by kernel_rfl) (by kernel_rfl) (by kernel_rfl) hM681 (.inl rfl) rfl rfl hS657 (fun w' hr => (ev_move (.inr rfl) rfl)) (fun a684 hM683 => ?_)
        clear hM681
        refine h_nil (by kernel_rfl) (hK623 _ _ ?_)
        clear hK623 K623 hS657 HB626 HB627 HB628 HB629
        have hM685 := hM683.cut5 (t1 := 0) (t2 := 1) (t3 := 2) (t4 := 7) (t5 := 9) rfl rfl rfl rfl rfl
        clear hM683
        refine inb_n ?_
        refine hK54 _ _ ?_
        refine wp_seq_k fun K686 hK686 => ?_
        have HV : Hid (false = rr) := hide HNO.out.symm
        rw [HV.out] at hM685
        cases rr
        case true =>
          simp only [Bool.false_eq_true, if_false, if_true] at HE
          refine region_then fun K687 QK687 hK687 => ?_
          refine s_val hM685 (.inl rfl) rfl rfl (ev_move (.inl rfl) rfl) (fun a689 hM688 => ?_)
          clear hM685
          refine s_val hM688 (.inl rfl) rfl rfl (ev_not rfl rfl rfl) (fun a691 hM690 => ?_)
          clear hM688
          refine seg_nil (hK687 _ _ ?_)
          clear hK687 K687 QK687
          have hM692 := hM690.cut1 (t1 := 130) rfl
          clear hM690
          refine wp_cond_false (hM692.ev (t := 130) rfl) ?_
          refine wp_skip ?_
          refine hK686 _ _ ?_
          refine region_then fun K693 QK693 hK693 => ?_
          refine s_val hM692 (.inl rfl) rfl rfl (ev_move (.inr rfl) rfl) (fun a695 hM694 => ?_)
          clear hM692
          refine seg_nil (hK693 _ _ ?_)
          clear hK693 K693 QK693
          have hM696 := hM694.cut1 (t1 := 8) rfl
          clear hM694
          refine wp_ret ?_
          repeat (with_reducible first | refine th_r ?_ | refine inb_r ?_ | refine js_r ?_)
          refine ret_of (t := 8) rfl hM696 rfl ?_
          first | exact ⟨ret_int HE, HB658.out⟩ | exact ⟨ret_int HE.out, HB658.out⟩
        case false =>
          simp only [Bool.false_eq_true, if_false, if_true] at HE
          refine region_then fun K697 QK697 hK697 => ?_
          refine s_val hM685 (.inl rfl) rfl rfl (ev_move (.inl rfl) rfl) (fun a699 hM698 => ?_)
          clear hM685
          refine s_val hM698 (.inl rfl) rfl rfl (ev_not rfl rfl rfl) (fun a701 hM700 => ?_)
          clear hM698
          refine seg_nil (hK697 _ _ ?_)
          clear hK697 K697 QK697
          have hM702 := hM700.cut1 (t1 := 130) rfl
          clear hM700
          refine wp_cond_true (hM702.ev (t := 130) rfl) ?_
          refine region_then fun K703 QK703 hK703 => ?_
          refine s_val hM702 (.inl rfl) rfl rfl (ev_move (.inr rfl) rfl) (fun a705 hM704 => ?_)
          clear hM702
          refine seg_nil (hK703 _ _ ?_)
          clear hK703 K703 QK703
          have hM706 := hM704.cut1 (t1 := 8) rfl
          clear hM704
          refine wp_ret ?_
          repeat (with_reducible first | refine th_r ?_ | refine inb_r ?_ | refine js_r ?_)
          refine ret_of (t := 8) rfl hM706 rfl ?_
          first | exact ⟨ret_int HE, HB658.out⟩ | exact ⟨ret_int HE.out, HB658.out⟩
    · skip
      have HR := hr.out
      rw [real_5 hk] at HR
      have HR := hide HR
      have HD1 := hide (may_d HM.out (by omega)).1
      have HK := hide hk
      clear hk
      obtain ⟨AL, cL, -, -, -, -, k0, -, -, hl0, -⟩ := ((HB.out.below HB45.out)).open_
      have HCL := hide (CellAt.of k0)
      clear k0
      have HB708 : Hid (Below w41.heap.size w41 w41) := Below.refl _ _
      refine region_then fun K709 QK709 hK709 => ?_
      refine s_val hM60 (.inl rfl) rfl rfl (ev_bin rfl rfl rfl g_int (b_eql (b := false) (by have := HK.out; simp [this]))) (fun a711 hM710 => ?_)
      clear hM60
      refine s_val hM710 (.inl rfl) rfl rfl (ev_move (.inr rfl) rfl) (fun a713 hM712 => ?_)
      clear hM710
      refine seg_nil (hK709 _ _ ?_)
      clear hK709 K709 QK709
      have hM714 := hM712.cut7 (t1 := 0) (t2 := 1) (t3 := 2) (t4 := 7) (t5 := 9) (t6 := 16) (t7 := 25) rfl rfl rfl rfl rfl rfl rfl
      clear hM712
      refine wp_cond_false (hM714.ev (t := 25) rfl) ?_
      refine region_last fun K715 QK715 hK715 => ?_
      refine s_val hM714 (.inl rfl) rfl rfl (ev_bin rfl rfl rfl g_int (b_eql (b := false) (by have := HK.out; simp [this]))) (fun a717 hM716 => ?_)
      clear hM714
      refine s_val hM716 (.inl rfl) rfl rfl (ev_move (.inr rfl) rfl) (fun a719 hM718 => ?_)
      clear hM716
      refine seg_nil (hK715 _ _ ?_)
      clear hK715 K715 QK715
      have hM720 := hM718.cut7 (t1 := 0) (t2 := 1) (t3 := 2) (t4 := 7) (t5 := 9) (t6 := 16) (t7 := 25) rfl rfl rfl rfl rfl rfl rfl
      clear hM718
      refine hK61 _ _ ?_
      refine wp_cond_false (hM720.ev (t := 25) rfl) ?_
      refine region_then fun K721 QK721 hK721 => ?_
      refine s_val hM720 (.inl rfl) rfl rfl (ev_bin rfl rfl rfl g_int (b_eql (b := false) (by have := HK.out; simp [this]))) (fun a723 hM722 => ?_)
      clear hM720
      refine s_val hM722 (.inl rfl) rfl rfl (ev_move (.inr rfl) rfl) (fun a725 hM724 => ?_)
      clear hM722
      refine seg_nil (hK721 _ _ ?_)
      clear hK721 K721 QK721
      have hM726 := hM724.cut8 (t1 := 0) (t2 := 1) (t3 := 2) (t4 := 7) (t5 := 9) (t6 := 16) (t7 := 25) (t8 := 46) rfl rfl rfl rfl rfl rfl rfl rfl
      clear hM724
      refine wp_cond_false (hM726.ev (t := 46) rfl) ?_
      refine region_then fun K727 QK727 hK727 => ?_
      refine s_val hM726 (.inl rfl) rfl rfl (ev_bin rfl rfl rfl g_int (b_eql (b := false) (by have := HK.out; simp [this]))) (fun a729 hM728 => ?_)
      clear hM726
      refine s_val hM728 (.inl rfl) rfl rfl (ev_move (.inr rfl) rfl) (fun a731 hM730 => ?_)
      clear hM728
      refine seg_nil (hK727 _ _ ?_)
      clear hK727 K727 QK727
      have hM732 := hM730.cut9 (t1 := 0) (t2 := 1) (t3 := 2) (t4 := 7) (t5 := 9) (t6 := 16) (t7 := 25) (t8 := 46) (t9 := 65) rfl rfl rfl rfl rfl rfl rfl rfl rfl
      clear hM730
      refine wp_cond_false (hM732.ev (t := 65) rfl) ?_
      refine region_then fun K733 QK733 hK733 => ?_
      refine s_val hM732 (.inl rfl) rfl rfl (ev_bin rfl rfl rfl g_int (b_eql (b := false) (by have := HK.out; simp [this]))) (fun a735 hM734 => ?_)
      clear hM732
      refine s_val hM734 (.inl rfl) rfl rfl (ev_move (.inr rfl) rfl) (fun a737 hM736 => ?_)
      clear hM734
      refine seg_nil (hK733 _ _ ?_)
      clear hK733 K733 QK733
      have hM738 := hM736.cut10 (t1 := 0) (t2 := 1) (t3 := 2) (t4 := 7) (t5 := 9) (t6 := 16) (t7 := 25) (t8 := 46) (t9 := 65) (t10 := 100) rfl rfl rfl rfl rfl rfl rfl rfl rfl rfl
      clear hM736
      refine wp_cond_false (hM738.ev (t := 100) rfl) ?_
      refine region_then fun K739 QK739 hK739 => ?_
      refine s_val hM738 (.inl rfl) rfl rfl (ev_bin rfl rfl rfl g_int (b_eql (b := true) (decide_eq_true HK.out))) (fun a741 hM740 => ?_)
      clear hM738
      refine s_val hM740 (.inl rfl) rfl rfl (ev_move (.inr rfl) rfl) (fun a743 hM742 => ?_)
      clear hM740
      refine seg_nil (hK739 _ _ ?_)
      clear hK739 K739 QK739
      have hM744 := hM742.cut11 (t1 := 0) (t2 := 1) (t3 := 2) (t4 := 7) (t5 := 9) (t6 := 16) (t7 := 25) (t8 := 46) (t9 := 65) (t10 := 100) (t11 := 110) rfl rfl rfl rfl rfl rfl rfl rfl rfl rfl rfl
      clear hM742
      refine wp_cond_true (hM744.ev (t := 110) rfl) ?_
      obtain ⟨q, HQ⟩ : ∃ q, Hid (decide (x.d ≤ (L.length : Int)) = q) := ⟨_, rfl⟩
      rw [HQ.out] at HR
      cases q
      case true =>
        have HBY := HR
        rw [Bool.true_and] at HBY
        refine h_open_end 18 rfl (by kernel_rfl) fun K745 w746 hb747 hK745 => ?_
        have HB748 := hide (below_then HB45.out hb747)
        have HB749 := hide (below_then HB46.out hb747)
        have HB750 := hide (below_then HB708.out hb747)
        clear hb747 HB45 HB46 HB708
        have hS751 : Below w746.heap.size w746 w746 := Below.refl _ _
        refine h_val 0 rfl (by kernel_rfl) (by kernel_rfl) (by kernel_rfl) hM744 (.inl rfl) rfl rfl hS751 (fun w' hr => (ev_fldw (m := 3) rfl rfl (fun w => by simp [go_sem]))) (fun a753 hM752 => ?_)
        clear hM744
        refine h_val 1 rfl (by kernel_rfl) (by kernel_rfl) (by kernel_rfl) hM752 (.inl rfl) rfl rfl hS751 (fun w' hr => (ev_load1 (v := .int .i64 (x.d)) rfl rfl (((KB8.out.on HB749.out).on hr).rng.at_ (m := 3) (by rw [HC.out]; rfl)) (isAgg_no Try.underlying3 rfl))) (fun a755 hM754 => ?_)
        clear hM752
        refine h_val 2 rfl (by kernel_rfl) (by kernel_rfl) (by kernel_rfl) hM754 (.inl rfl) rfl rfl hS751 (fun w' hr => (ev_move (.inl rfl) rfl)) (fun a757 hM756 => ?_)
        clear hM754
        refine h_val 3 rfl (by kernel_rfl) (by kernel_rfl) (by kernel_rfl) hM756 (.inl rfl) rfl rfl hS751 (fun w' hr => (ev_nilc rfl rfl)) (fun a759 hM758 => ?_)
        clear hM756
        refine h_val 4 rfl (by kernel_rfl) (by kernel_rfl) (by kernel_rfl) hM758 (.inl rfl) rfl rfl hS751 (fun w' hr => (ev_fldw (m := 0) rfl rfl (fun w => by simp [go_sem]))) (fun a761 hM760 => ?_)
        clear hM758
        refine h_val 5 rfl (by kernel_rfl) (by kernel_rfl) (by kernel_rfl) hM760 (.inl rfl) rfl rfl hS751 (fun w' hr => (ev_load1 (v := .slice AL L.length cL) rfl rfl (((HCL.out.below HB750.out).below hr)).2 (isAgg_no (P := Try.prog) (d := .slice 60) (by kernel_rfl) rfl))) (fun a763 hM762 => ?_)
        clear hM760
        refine h_val 6 rfl (by kernel_rfl) (by kernel_rfl) (by kernel_rfl) hM762 (.inl rfl) rfl rfl hS751 (fun w' hr => (ev_len rfl rfl Try.underlying31)) (fun a765 hM764 => ?_)
        clear hM762
        refine h_val 7 rfl (by kernel_rfl) (by kernel_rfl) (by kernel_rfl) hM764 (.inl rfl) rfl rfl hS751 (fun w' hr => (ev_bin rfl rfl rfl g_int (b_leq (b := true) HQ.out))) (fun a767 hM766 => ?_)
        clear hM764
        refine h_val 8 rfl (by kernel_rfl) (by kernel_rfl) (by kernel_rfl) hM766 (.inl rfl) rfl rfl hS751 (fun w' hr => (ev_move (.inl rfl) rfl)) (fun a769 hM768 => ?_)
        clear hM766
        refine h_val 9 rfl (by kernel_rfl) (by kernel_rfl) (by kernel_rfl) hM768 (.inr ⟨_, _, _, rfl, rfl, rfl⟩) rfl rfl hS751 (fun w' hr => (ev_move (.inl rfl) rfl)) (fun a771 hM770 => ?_)
        clear hM768
        refine h_val 10 rfl (by kernel_rfl) (by kernel_rfl) (by kernel_rfl) hM770 (.inr ⟨_, _, _, rfl, rfl, rfl⟩) rfl rfl hS751 (fun w' hr => (ev_fldw (m := 1) rfl rfl (fun w => by simp [go_sem]))) (fun a773 hM772 => ?_)
        clear hM770
        refine h_val 11 rfl (by kernel_rfl) (by kernel_rfl) (by kernel_rfl) hM772 (.inr ⟨_, _, _, rfl, rfl, rfl⟩) rfl rfl hS751 (fun w' hr => (ev_load1 (v := .int .i64 (x.f)) rfl rfl (((KB8.out.on HB749.out).on hr).rng.at_ (m := 1) (by rw [HC.out]; rfl)) (isAgg_no Try.underlying3 rfl))) (fun a775 hM774 => ?_)
        clear hM772
        refine h_val 12 rfl (by kernel_rfl) (by kernel_rfl) (by kernel_rfl) hM774 (.inr ⟨_, _, _, rfl, rfl, rfl⟩) rfl rfl hS751 (fun w' hr => (ev_fldw (m := 3) rfl rfl (fun w => by simp [go_sem]))) (fun a777 hM776 => ?_)
        clear hM774
        refine h_val 13 rfl (by kernel_rfl) (by kernel_rfl) (by kernel_rfl) hM776 (.inr ⟨_, _, _, rfl, rfl, rfl⟩) rfl rfl hS751 (fun w' hr => (ev_load1 (v := .int .i64 (x.d)) rfl rfl (((KB8.out.on HB749.out).on hr).rng.at_ (m := 3) (by rw [HC.out]; rfl)) (isAgg_no Try.underlying3 rfl))) (fun a779 hM778 => ?_)
        clear hM776
        refine h_val 14 rfl (by kernel_rfl) (by kernel_rfl) (by kernel_rfl) hM778 (.inr ⟨_, _, _, rfl, rfl, rfl⟩) rfl rfl hS751 (fun w' hr => (ev_move (.inl rfl) rfl)) (fun a781 hM780 => ?_)
        clear hM778
        refine h_call 15 rfl (by kernel_rfl) hM780 (.inr ⟨_, _, _, rfl, rfl, rfl⟩) rfl rfl (f := 46) (args := #[.pointer (some ⟨g, 0, none⟩), .int .i64 (x.f), .int .i64 (x.d), .slice A n c]) (ev_call hM780 rfl rfl rfl (fun w => by simp [go_sem]) _) (ref5_by x.f x.d _ (HB.out.below HB748.out) (HL.out.below HB748.out) hn HBY) (fun e w782 hp => ?_)
        obtain ⟨rfl, rfl⟩ := hp
        refine ⟨_, rfl, fun a785 hM784 => ⟨hS751, ?_⟩⟩
        clear hM780
        refine h_val 16 rfl (by kernel_rfl) (by kernel_rfl) (by kernel_rfl) hM784 (.inl rfl) rfl rfl hS751 (fun w' hr => (ev_pick rfl rfl rfl)) (fun a787 hM786 => ?_)
        clear hM784
        refine h_val 17 rfl (by kernel_rfl) (by kernel_rfl) (by kernel_rfl) hM786 (.inl rfl) rfl rfl hS751 (fun w' hr => (ev_move (.inr rfl) rfl)) (fun a789 hM788 => ?_)
        clear hM786
        refine h_nil (by kernel_rfl) (hK745 _ _ ?_)
        clear hK745 K745 hS751 
        have hM790 := hM788.cut5 (t1 := 0) (t2 := 1) (t3 := 2) (t4 := 7) (t5 := 9) rfl rfl rfl rfl rfl
        clear hM788
        refine inb_n ?_
        refine hK54 _ _ ?_
        refine wp_seq_k fun K791 hK791 => ?_
        have HV : Hid (rr = rr) := hide rfl
        clear HV
        cases rr
        case true =>
          simp only [Bool.false_eq_true, if_false, if_true] at HE
          refine region_then fun K792 QK792 hK792 => ?_
          refine s_val hM790 (.inl rfl) rfl rfl (ev_move (.inl rfl) rfl) (fun a794 hM793 => ?_)
          clear hM790
          refine s_val hM793 (.inl rfl) rfl rfl (ev_not rfl rfl rfl) (fun a796 hM795 => ?_)
          clear hM793
          refine seg_nil (hK792 _ _ ?_)
          clear hK792 K792 QK792
          have hM797 := hM795.cut1 (t1 := 130) rfl
          clear hM795
          refine wp_cond_false (hM797.ev (t := 130) rfl) ?_
          refine wp_skip ?_
          refine hK791 _ _ ?_
          refine region_then fun K798 QK798 hK798 => ?_
          refine s_val hM797 (.inl rfl) rfl rfl (ev_move (.inr rfl) rfl) (fun a800 hM799 => ?_)
          clear hM797
          refine seg_nil (hK798 _ _ ?_)
          clear hK798 K798 QK798
          have hM801 := hM799.cut1 (t1 := 8) rfl
          clear hM799
          refine wp_ret ?_
          repeat (with_reducible first | refine th_r ?_ | refine inb_r ?_ | refine js_r ?_)
          refine ret_of (t := 8) rfl hM801 rfl ?_
          first | exact ⟨ret_int HE, HB748.out⟩ | exact ⟨ret_int HE.out, HB748.out⟩
        case false =>
          simp only [Bool.false_eq_true, if_false, if_true] at HE
          refine region_then fun K802 QK802 hK802 => ?_
          refine s_val hM790 (.inl rfl) rfl rfl (ev_move (.inl rfl) rfl) (fun a804 hM803 => ?_)
          clear hM790
          refine s_val hM803 (.inl rfl) rfl rfl (ev_not rfl rfl rfl) (fun a806 hM805 => ?_)
          clear hM803
          refine seg_nil (hK802 _ _ ?_)
          clear hK802 K802 QK802
          have hM807 := hM805.cut1 (t1 := 130) rfl
          clear hM805
          refine wp_cond_true (hM807.ev (t := 130) rfl) ?_
          refine region_then fun K808 QK808 hK808 => ?_
          refine s_val hM807 (.inl rfl) rfl rfl (ev_move (.inr rfl) rfl) (fun a810 hM809 => ?_)
          clear hM807
          refine seg_nil (hK808 _ _ ?_)
          clear hK808 K808 QK808
          have hM811 := hM809.cut1 (t1 := 8) rfl
          clear hM809
          refine wp_ret ?_
          repeat (with_reducible first | refine th_r ?_ | refine inb_r ?_ | refine js_r ?_)
          refine ret_of (t := 8) rfl hM811 rfl ?_
          first | exact ⟨ret_int HE, HB748.out⟩ | exact ⟨ret_int HE.out, HB748.out⟩
      case false =>
        have HNO := HR
        rw [Bool.false_and] at HNO
        have HNO := hide HNO.symm
        refine h_open_end 18 rfl (by kernel_rfl) fun K812 w813 hb814 hK812 => ?_
        have HB815 := hide (below_then HB45.out hb814)
        have HB816 := hide (below_then HB46.out hb814)
        have HB817 := hide (below_then HB708.out hb814)
        clear hb814 HB45 HB46 HB708
        have hS818 : Below w813.heap.size w813 w813 := Below.refl _ _
        refine h_val 0 rfl (by kernel_rfl) (by kernel_rfl) (by kernel_rfl) hM744 (.inl rfl) rfl rfl hS818 (fun w' hr => (ev_fldw (m := 3) rfl rfl (fun w => by simp [go_sem]))) (fun a820 hM819 => ?_)
        clear hM744
        refine h_val 1 rfl (by kernel_rfl) (by kernel_rfl) (by kernel_rfl) hM819 (.inl rfl) rfl rfl hS818 (fun w' hr => (ev_load1 (v := .int .i64 (x.d)) rfl rfl (((KB8.out.on HB816.out).on hr).rng.at_ (m := 3) (by rw [HC.out]; rfl)) (isAgg_no Try.underlying3 rfl))) (fun a822 hM821 => ?_)
        clear hM819
        refine h_val 2 rfl (by kernel_rfl) (by kernel_rfl) (by kernel_rfl) hM821 (.inl rfl) rfl rfl hS818 (fun w' hr => (ev_move (.inl rfl) rfl)) (fun a824 hM823 => ?_)
        clear hM821
        refine h_val 3 rfl (by kernel_rfl) (by kernel_rfl) (by kernel_rfl) hM823 (.inl rfl) rfl rfl hS818 (fun w' hr => (ev_nilc rfl rfl)) (fun a826 hM825 => ?_)
        clear hM823
        refine h_val 4 rfl (by kernel_rfl) (by kernel_rfl) (by kernel_rfl) hM825 (.inl rfl) rfl rfl hS818 (fun w' hr => (ev_fldw (m := 0) rfl rfl (fun w => by simp [go_sem]))) (fun a828 hM827 => ?_)
        clear hM825
        refine h_val 5 rfl (by kernel_rfl) (by kernel_rfl) (by kernel_rfl) hM827 (.inl rfl) rfl rfl hS818 (fun w' hr => (ev_load1 (v := .slice AL L.length cL) rfl rfl (((HCL.out.below HB817.out).below hr)).2 (isAgg_no (P := Try.prog) (d := .slice 60) (by kernel_rfl) rfl))) (fun a830 hM829 => ?_)
        clear hM827
        refine h_val 6 rfl (by kernel_rfl) (by kernel_rfl) (by kernel_rfl) hM829 (.inl rfl) rfl rfl hS818 (fun w' hr => (ev_len rfl rfl Try.underlying31)) (fun a832 hM831 => ?_)
        clear hM829
        refine h_val 7 rfl (by kernel_rfl) (by kernel_rfl) (by kernel_rfl) hM831 (.inl rfl) rfl rfl hS818 (fun w' hr => (ev_bin rfl rfl rfl g_int (b_leq (b := false) HQ.out))) (fun a834 hM833 => ?_)
        clear hM831
        refine h_val 8 rfl (by kernel_rfl) (by kernel_rfl) (by kernel_rfl) hM833 (.inl rfl) rfl rfl hS818 (fun w' hr => (ev_move (.inl rfl) rfl)) (fun a836 hM835 => ?_)
        clear hM833
        refine h_skip 9 rfl (by kernel_rfl) (by kernel_rfl) (by kernel_rfl) hM835 rfl rfl rfl rfl rfl rfl hS818 (fun a838 hM837 => ?_)
        clear hM835
        refine h_skip 10 rfl (by kernel_rfl) (by kernel_rfl) (by kernel_rfl) hM837 rfl rfl rfl rfl rfl rfl hS818 (fun a840 hM839 => ?_)
        clear hM837
        refine h_skip 11 rfl (by kernel_rfl) (by kernel_rfl) (by kernel_rfl) hM839 rfl rfl rfl rfl rfl rfl hS818 (fun a842 hM841 => ?_)
        clear hM839
        refine h_skip 12 rfl (by kernel_rfl) (by kernel_rfl) (by kernel_rfl) hM841 rfl rfl rfl rfl rfl rfl hS818 (fun a844 hM843 => ?_)
        clear hM841
        refine h_skip 13 rfl (by kernel_rfl) (by kernel_rfl) (by kernel_rfl) hM843 rfl rfl rfl rfl rfl rfl hS818 (fun a846 hM845 => ?_)
        clear hM843
        refine h_skip 14 rfl (by kernel_rfl) (by kernel_rfl) (by kernel_rfl) hM845 rfl rfl rfl rfl rfl rfl hS818 (fun a848 hM847 => ?_)
        clear hM845
        refine h_skip 15 rfl (by kernel_rfl) (by kernel_rfl) (by kernel_rfl) hM847 rfl rfl rfl rfl rfl rfl hS818 (fun a850 hM849 => ?_)
        clear hM847
        refine h_val 16 rfl (by kernel_rfl) (by kernel_rfl) (by kernel_rfl) hM849 (.inl rfl) rfl rfl hS818 (fun w' hr => (ev_pick rfl rfl rfl)) (fun a852 hM851 => ?_)
        clear hM849
        refine h_val 17 rfl (by kernel_rfl) (by kernel_rfl) (by kernel_rfl) hM851 (.inl rfl) rfl rfl hS818 (fun w' hr => (ev_move (.inr rfl) rfl)) (fun a854 hM853 => ?_)
        clear hM851
        refine h_nil (by kernel_rfl) (hK812 _ _ ?_)
        clear hK812 K812 hS818 
        have hM855 := hM853.cut5 (t1 := 0) (t2 := 1) (t3 := 2) (t4 := 7) (t5 := 9) rfl rfl rfl rfl rfl
        clear hM853
        refine inb_n ?_
        refine hK54 _ _ ?_
        refine wp_seq_k fun K856 hK856 => ?_
        have HV : Hid (false = rr) := hide HNO.out.symm
        rw [HV.out] at hM855
        cases rr
        case true =>
          simp only [Bool.false_eq_true, if_false, if_true] at HE
          refine region_then fun K857 QK857 hK857 => ?_
          refine s_val hM855 (.inl rfl) rfl rfl (ev_move (.inl rfl) rfl) (fun a859 hM858 => ?_)
          clear hM855
          refine s_val hM858 (.inl rfl) rfl rfl (ev_not rfl rfl rfl) (fun a861 hM860 => ?_)
          clear hM858
          refine seg_nil (hK857 _ _ ?_)
          clear hK857 K857 QK857
          have hM862 := hM860.cut1 (t1 := 130) rfl
          clear hM860
          refine wp_cond_false (hM862.ev (t := 130) rfl) ?_
          refine wp_skip ?_
          refine hK856 _ _ ?_
          refine region_then fun K863 QK863 hK863 => ?_
          refine s_val hM862 (.inl rfl) rfl rfl (ev_move (.inr rfl) rfl) (fun a865 hM864 => ?_)
          clear hM862
          refine seg_nil (hK863 _ _ ?_)
          clear hK863 K863 QK863
          have hM866 := hM864.cut1 (t1 := 8) rfl
          clear hM864
          refine wp_ret ?_
          repeat (with_reducible first | refine th_r ?_ | refine inb_r ?_ | refine js_r ?_)
          refine ret_of (t := 8) rfl hM866 rfl ?_
          first | exact ⟨ret_int HE, HB815.out⟩ | exact ⟨ret_int HE.out, HB815.out⟩
        case false =>
          simp only [Bool.false_eq_true, if_false, if_true] at HE
          refine region_then fun K867 QK867 hK867 => ?_
          refine s_val hM855 (.inl rfl) rfl rfl (ev_move (.inl rfl) rfl) (fun a869 hM868 => ?_)
          clear hM855
          refine s_val hM868 (.inl rfl) rfl rfl (ev_not rfl rfl rfl) (fun a871 hM870 => ?_)
          clear hM868
          refine seg_nil (hK867 _ _ ?_)
          clear hK867 K867 QK867
          have hM872 := hM870.cut1 (t1 := 130) rfl
          clear hM870
          refine wp_cond_true (hM872.ev (t := 130) rfl) ?_
          refine region_then fun K873 QK873 hK873 => ?_
          refine s_val hM872 (.inl rfl) rfl rfl (ev_move (.inr rfl) rfl) (fun a875 hM874 => ?_)
          clear hM872
          refine seg_nil (hK873 _ _ ?_)
          clear hK873 K873 QK873
          have hM876 := hM874.cut1 (t1 := 8) rfl
          clear hM874
          refine wp_ret ?_
          repeat (with_reducible first | refine th_r ?_ | refine inb_r ?_ | refine js_r ?_)
          refine ret_of (t := 8) rfl hM876 rfl ?_
          first | exact ⟨ret_int HE, HB815.out⟩ | exact ⟨ret_int HE.out, HB815.out⟩
    · skip
      have HR := hr.out
      rw [real_6 hk] at HR
      have HR := hide HR
      have HF := hide (may_c HM.out hk).1
      have HD1 := hide (may_c HM.out hk).2.1
      have HK := hide hk
      clear hk
      obtain ⟨CT, HCT⟩ : ∃ C : Array Value, Hid (C = ctC x v) := ⟨_, rfl⟩
      have HRCT : Hid (Rng w41 g4 11 CT) := (((KB8.out.on HB46.out)).rng).sub 11 (sub_ct HC.out HCT.out)
      have HB878 : Hid (Below w41.heap.size w41 w41) := Below.refl _ _
      obtain ⟨AL, cL, -, -, -, -, k0, -, -, hl0, -⟩ := ((HB.out.below HB45.out)).open_
      have HCL := hide (CellAt.of k0)
      clear k0
      have HB880 : Hid (Below w41.heap.size w41 w41) := Below.refl _ _
      refine region_then fun K881 QK881 hK881 => ?_
      refine s_val hM60 (.inl rfl) rfl rfl (ev_bin rfl rfl rfl g_int (b_eql (b := false) (by have := HK.out; simp [this]))) (fun a883 hM882 => ?_)
      clear hM60
      refine s_val hM882 (.inl rfl) rfl rfl (ev_move (.inr rfl) rfl) (fun a885 hM884 => ?_)
      clear hM882
      refine seg_nil (hK881 _ _ ?_)
      clear hK881 K881 QK881
      have hM886 := hM884.cut7 (t1 := 0) (t2 := 1) (t3 := 2) (t4 := 7) (t5 := 9) (t6 := 16) (t7 := 25) rfl rfl rfl rfl rfl rfl rfl
      clear hM884
      refine wp_cond_false (hM886.ev (t := 25) rfl) ?_
      refine region_last fun K887 QK887 hK887 => ?_
      refine s_val hM886 (.inl rfl) rfl rfl (ev_bin rfl rfl rfl g_int (b_eql (b := false) (by have := HK.out; simp [this]))) (fun a889 hM888 => ?_)
      clear hM886
      refine s_val hM888 (.inl rfl) rfl rfl (ev_move (.inr rfl) rfl) (fun a891 hM890 => ?_)
      clear hM888
      refine seg_nil (hK887 _ _ ?_)
      clear hK887 K887 QK887
      have hM892 := hM890.cut7 (t1 := 0) (t2 := 1) (t3 := 2) (t4 := 7) (t5 := 9) (t6 := 16) (t7 := 25) rfl rfl rfl rfl rfl rfl rfl
      clear hM890
      refine hK61 _ _ ?_
      refine wp_cond_false (hM892.ev (t := 25) rfl) ?_
      refine region_then fun K893 QK893 hK893 => ?_
      refine s_val hM892 (.inl rfl) rfl rfl (ev_bin rfl rfl rfl g_int (b_eql (b := false) (by have := HK.out; simp [this]))) (fun a895 hM894 => ?_)
      clear hM892
      refine s_val hM894 (.inl rfl) rfl rfl (ev_move (.inr rfl) rfl) (fun a897 hM896 => ?_)
      clear hM894
      refine seg_nil (hK893 _ _ ?_)
      clear hK893 K893 QK893
      have hM898 := hM896.cut8 (t1 := 0) (t2 := 1) (t3 := 2) (t4 := 7) (t5 := 9) (t6 := 16) (t7 := 25) (t8 := 46) rfl rfl rfl rfl rfl rfl rfl rfl
      clear hM896
      refine wp_cond_false (hM898.ev (t := 46) rfl) ?_
      refine region_then fun K899 QK899 hK899 => ?_
      refine s_val hM898 (.inl rfl) rfl rfl (ev_bin rfl rfl rfl g_int (b_eql (b := true) (decide_eq_true HK.out))) (fun a901 hM900 => ?_)
      clear hM898
      refine s_val hM900 (.inl rfl) rfl rfl (ev_move (.inr rfl) rfl) (fun a903 hM902 => ?_)
      clear hM900
      refine seg_nil (hK899 _ _ ?_)
      clear hK899 K899 QK899
      have hM904 := hM902.cut9 (t1 := 0) (t2 := 1) (t3 := 2) (t4 := 7) (t5 := 9) (t6 := 16) (t7 := 25) (t8 := 46) (t9 := 65) rfl rfl rfl rfl rfl rfl rfl rfl rfl
      clear hM902
      refine wp_cond_true (hM904.ev (t := 65) rfl) ?_
      obtain ⟨q, HI⟩ : ∃ q, Hid (isB L x.c.d (headerB x.c.h) = q) := ⟨_, rfl⟩
      obtain ⟨CH, HCH⟩ : ∃ C : Array Value, Hid (C = chC x v) := ⟨_, rfl⟩
      have HRCH : Hid (Rng w41 g4 11 CH) := (((KB8.out.on HB46.out)).rng).sub 11 (sub_ch2 HC.out HCH.out)
      have HB906 : Hid (Below w41.heap.size w41 w41) := Below.refl _ _
      refine h_open 11 rfl (by kernel_rfl) fun K907 w908 hb909 hK907 => ?_
      have HB910 := hide (below_then HB45.out hb909)
      have HB911 := hide (below_then HB46.out hb909)
      have HB912 := hide (below_then HB878.out hb909)
      have HB913 := hide (below_then HB880.out hb909)
      have HB914 := hide (below_then HB906.out hb909)
      clear hb909 HB45 HB46 HB878 HB880 HB906
      have hS915 : Below w908.heap.size w908 w908 := Below.refl _ _
      refine h_val 0 rfl (by kernel_rfl) (by kernel_rfl) (by kernel_rfl) hM904 (.inl rfl) rfl rfl hS915 (fun w' hr => (ev_move (.inl rfl) rfl)) (fun a917 hM916 => ?_)
      clear hM904
      refine h_val 1 rfl (by kernel_rfl) (by kernel_rfl) (by kernel_rfl) hM916 (.inl rfl) rfl rfl hS915 (fun w' hr => (ev_fldw (m := 11) rfl rfl (fun w => by simp [go_sem]))) (fun a919 hM918 => ?_)
      clear hM916
      refine h_val 2 rfl (by kernel_rfl) (by kernel_rfl) (by kernel_rfl) hM918 (.inl rfl) rfl rfl hS915 (fun w' hr => (ev_fldw (m := 11) rfl rfl (fun w => by simp [go_sem]))) (fun a921 hM920 => ?_)
      clear hM918
      refine h_val 3 rfl (by kernel_rfl) (by kernel_rfl) (by kernel_rfl) hM920 (.inl rfl) rfl rfl hS915 (fun w' hr => (ev_loadm rfl rfl ((HRCH.out.below HB914.out).below hr) Try.underlying38 rfl (by rw [HCH.out]; exact info_hdr))) (fun a923 hM922 => ?_)
      clear hM920
      refine h_val 6 rfl (by kernel_rfl) (by kernel_rfl) (by kernel_rfl) hM922 (.inl rfl) rfl rfl hS915 (fun w' hr => (ev_fldw (m := 11) rfl rfl (fun w => by simp [go_sem]))) (fun a925 hM924 => ?_)
      clear hM922
      refine h_val 7 rfl (by kernel_rfl) (by kernel_rfl) (by kernel_rfl) hM924 (.inl rfl) rfl rfl hS915 (fun w' hr => (ev_fldw (m := 15) rfl rfl (fun w => by simp [go_sem]))) (fun a927 hM926 => ?_)
      clear hM924
      refine h_val 8 rfl (by kernel_rfl) (by kernel_rfl) (by kernel_rfl) hM926 (.inl rfl) rfl rfl hS915 (fun w' hr => (ev_load1 (v := .int .i64 (x.c.d)) rfl rfl (((HRCT.out.below HB912.out).below hr).at_ (m := 4) (by rw [HCT.out]; rfl)) (isAgg_no Try.underlying3 rfl))) (fun a929 hM928 => ?_)
      clear hM926
      refine h_call 4 rfl (by kernel_rfl) hM928 (.inl rfl) rfl rfl (f := 31) (args := #[.agg CH]) (ev_call hM928 rfl rfl rfl (fun w => by simp [go_sem]) _) (by rw [HCH.out]; exact ref4_HeaderBytes x.c.h _ ((HS.out.below HB910.out)).cb ((HS.out.below HB910.out)).cp HF) (fun e w930 hp => ?_)
      obtain ⟨v', rfl, ho, hb931⟩ := hp
      obtain ⟨AH, cH, rfl⟩ := own_slice ho
      have HY := hide (Sl.of_own ho)
      clear ho
      have hS934 := s_in hS915 hb931
      refine ⟨_, rfl, fun a933 hM932 => ⟨hS934, ?_⟩⟩
      clear hM928
      have HB935 := hide (below_then HB910.out hb931)
      have HB936 := hide (below_then HB911.out hb931)
      have HB937 := hide (below_then HB912.out hb931)
      have HB938 := hide (below_then HB913.out hb931)
      have HB939 := hide (below_then HB914.out hb931)
      clear hb931
      have HB941 : Hid (Below w930.heap.size w930 w930) := Below.refl _ _
      refine h_call 5 rfl (by kernel_rfl) hM932 (.inl rfl) rfl rfl (f := 45) (args := #[.pointer (some ⟨g, 0, none⟩), .slice AH ((headerB x.c.h).length) cH]) (ev_call hM932 rfl rfl rfl (fun w => by simp [go_sem]) _) (ref5_Find (x := headerB x.c.h) _ (HB.out.below HB935.out) (HY.out.below HB941.out) (by have := headerB_le HF.out; omega) (hide rfl)) (fun e w942 hp => ?_)
      obtain ⟨rfl, q946, rfl⟩ := hp
      have hb943 : Below w930.heap.size w930 (w930.drewN q946) := below_drewN (Below.refl _ _) q946
      generalize w930.drewN q946 = w942 at hb943 ⊢
      have hS947 := s_in hS934 hb943
      refine ⟨_, rfl, fun a945 hM944 => ⟨hS947, ?_⟩⟩
      clear hM932
      have HB948 := hide (below_then HB935.out hb943)
      have HB949 := hide (below_then HB936.out hb943)
      have HB950 := hide (below_then HB937.out hb943)
      have HB951 := hide (below_then HB938.out hb943)
      have HB952 := hide (below_then HB939.out hb943)
      have HB953 := hide (below_then HB941.out hb943)
      clear hb943 HB935 HB936 HB937 HB938 HB939 HB941
      refine h_val 9 rfl (by kernel_rfl) (by kernel_rfl) (by kernel_rfl) hM944 (.inl rfl) rfl rfl hS947 (fun w' hr => (ev_bin rfl rfl rfl g_int (b_eql (b := q) HI.out))) (fun a955 hM954 => ?_)
      clear hM944
      refine h_val 10 rfl (by kernel_rfl) (by kernel_rfl) (by kernel_rfl) hM954 (.inl rfl) rfl rfl hS947 (fun w' hr => (ev_move (.inr rfl) rfl)) (fun a957 hM956 => ?_)
      clear hM954
      refine h_nil (by kernel_rfl) (hK907 _ _ ?_)
      clear hK907 K907 hS947 HB910 HB911 HB912 HB913 HB914
      have hM958 := hM956.cut5 (t1 := 0) (t2 := 1) (t3 := 2) (t4 := 7) (t5 := 9) rfl rfl rfl rfl rfl
      clear hM956
      refine region_then fun K959 QK959 hK959 => ?_
      refine s_val hM958 (.inl rfl) rfl rfl (ev_move (.inr rfl) rfl) (fun a961 hM960 => ?_)
      clear hM958
      refine seg_nil (hK959 _ _ ?_)
      clear hK959 K959 QK959
      have hM962 := hM960.cut6 (t1 := 0) (t2 := 1) (t3 := 2) (t4 := 7) (t5 := 9) (t6 := 10) rfl rfl rfl rfl rfl rfl
      clear hM960
      rw [show (.bool q : Value) = .bool (q && (x.c.ss.take 0).all (fun z => byB (sgP ps) ls z x.c.d)) from by simp] at hM962
      have hM963 := hM962.cut6 (t1 := 10) (t2 := 0) (t3 := 1) (t4 := 2) (t5 := 7) (t6 := 9) rfl rfl rfl rfl rfl rfl
      clear hM962
      refine wp_block ?_
      refine wp_loop_ghost (fun m a w' => ∃ (j : Nat), m = v.cs.n - j ∧ Frm a 131 [(10, .int .i64 (j : Int)), (0, .pointer (some ⟨g, 0, none⟩)), (1, .int .i64 N), (2, .slice A n c), (7, .pointer (some ⟨g4, 0, none⟩)), (9, .bool ((q && (x.c.ss.take j).all (fun z => byB (sgP ps) ls z x.c.d))))] ∧ Hid (Below w.heap.size w w') ∧ Hid (Below w5.heap.size w5 w') ∧ Hid (Below w41.heap.size w41 w') ∧ Hid (Below w41.heap.size w41 w') ∧ j ≤ v.cs.n) v.cs.n ⟨0,  by omega, hM963, HB948, HB949, HB950, HB952, Nat.zero_le _⟩ ?_
      clear HB948 HB949 HB950 HB951 HB952 HB953 hM963
      rintro m971 a965 w964 ⟨j, rfl, hM966, HB967, HB968, HB969, HB970, hj⟩
      refine wp_seq_k fun K972 hK972 => ?_
      have HLN := hide (Sl.ilen ((HS.out.below HB967.out)).cs)
      by_cases hlt : j < v.cs.n
      case neg =>
        have HRV : Hid ((q && (x.c.ss.take j).all (fun z => byB (sgP ps) ls z x.c.d)) = rr) := by have h := HR.out; unfold certB at h; rw [HI.out] at h; rw [List.take_of_length_le (by have := HLN.out; omega)]; exact h
        refine region_then fun K973 QK973 hK973 => ?_
        refine s_val hM966 (.inl rfl) rfl rfl (ev_move (.inl rfl) rfl) (fun a975 hM974 => ?_)
        clear hM966
        refine s_val hM974 (.inl rfl) rfl rfl (ev_fldw (m := 11) rfl rfl (fun w => by simp [go_sem])) (fun a977 hM976 => ?_)
        clear hM974
        refine s_val hM976 (.inl rfl) rfl rfl (ev_fldw (m := 16) rfl rfl (fun w => by simp [go_sem])) (fun a979 hM978 => ?_)
        clear hM976
        refine s_val hM978 (.inl rfl) rfl rfl (ev_load1 (v := .slice (v.cs.A) (v.cs.n) (v.cs.c)) rfl rfl ((HRCT.out.below HB969.out).at_ (m := 5) (by rw [HCT.out]; rfl)) (isAgg_no Try.underlying22 rfl)) (fun a981 hM980 => ?_)
        clear hM978
        refine s_val hM980 (.inl rfl) rfl rfl (ev_len rfl rfl Try.underlying22) (fun a983 hM982 => ?_)
        clear hM980
        refine s_val hM982 (.inl rfl) rfl rfl (ev_bin rfl rfl rfl g_int (b_lss (b := false) (by rw [decide_eq_false_iff_not]; omega))) (fun a985 hM984 => ?_)
        clear hM982
        refine seg_nil (hK973 _ _ ?_)
        clear hK973 K973 QK973
        have hM986 := hM984.cut7 (t1 := 0) (t2 := 1) (t3 := 2) (t4 := 7) (t5 := 9) (t6 := 10) (t7 := 82) rfl rfl rfl rfl rfl rfl rfl
        clear hM984
        refine wp_cond_false (hM986.ev (t := 82) rfl) ?_
        refine wp_exit ?_
        repeat (with_reducible refine th_e ?_)
        refine inb_e ?_
        refine inb_n ?_
        refine hK54 _ _ ?_
        refine wp_seq_k fun K987 hK987 => ?_
        have HV : Hid ((q && (x.c.ss.take j).all (fun z => byB (sgP ps) ls z x.c.d)) = rr) := HRV
        rw [HV.out] at hM986
        cases rr
        case true =>
          simp only [Bool.false_eq_true, if_false, if_true] at HE
          refine region_then fun K988 QK988 hK988 => ?_
          refine s_val hM986 (.inl rfl) rfl rfl (ev_move (.inl rfl) rfl) (fun a990 hM989 => ?_)
          clear hM986
          refine s_val hM989 (.inl rfl) rfl rfl (ev_not rfl rfl rfl) (fun a992 hM991 => ?_)
          clear hM989
          refine seg_nil (hK988 _ _ ?_)
          clear hK988 K988 QK988
          have hM993 := hM991.cut1 (t1 := 130) rfl
          clear hM991
          refine wp_cond_false (hM993.ev (t := 130) rfl) ?_
          refine wp_skip ?_
          refine hK987 _ _ ?_
          refine region_then fun K994 QK994 hK994 => ?_
          refine s_val hM993 (.inl rfl) rfl rfl (ev_move (.inr rfl) rfl) (fun a996 hM995 => ?_)
          clear hM993
          refine seg_nil (hK994 _ _ ?_)
          clear hK994 K994 QK994
          have hM997 := hM995.cut1 (t1 := 8) rfl
          clear hM995
          refine wp_ret ?_
          repeat (with_reducible first | refine th_r ?_ | refine inb_r ?_ | refine js_r ?_)
          refine ret_of (t := 8) rfl hM997 rfl ?_
          first | exact ⟨ret_int HE, HB967.out⟩ | exact ⟨ret_int HE.out, HB967.out⟩
        case false =>
          simp only [Bool.false_eq_true, if_false, if_true] at HE
          refine region_then fun K998 QK998 hK998 => ?_
          refine s_val hM986 (.inl rfl) rfl rfl (ev_move (.inl rfl) rfl) (fun a1000 hM999 => ?_)
          clear hM986
          refine s_val hM999 (.inl rfl) rfl rfl (ev_not rfl rfl rfl) (fun a1002 hM1001 => ?_)
          clear hM999
          refine seg_nil (hK998 _ _ ?_)
          clear hK998 K998 QK998
          have hM1003 := hM1001.cut1 (t1 := 130) rfl
          clear hM1001
          refine wp_cond_true (hM1003.ev (t := 130) rfl) ?_
          refine region_then fun K1004 QK1004 hK1004 => ?_
          refine s_val hM1003 (.inl rfl) rfl rfl (ev_move (.inr rfl) rfl) (fun a1006 hM1005 => ?_)
          clear hM1003
          refine seg_nil (hK1004 _ _ ?_)
          clear hK1004 K1004 QK1004
          have hM1007 := hM1005.cut1 (t1 := 8) rfl
          clear hM1005
          refine wp_ret ?_
          repeat (with_reducible first | refine th_r ?_ | refine inb_r ?_ | refine js_r ?_)
          refine ret_of (t := 8) rfl hM1007 rfl ?_
          first | exact ⟨ret_int HE, HB967.out⟩ | exact ⟨ret_int HE.out, HB967.out⟩
      case pos =>
        refine region_then fun K1008 QK1008 hK1008 => ?_
        refine s_val hM966 (.inl rfl) rfl rfl (ev_move (.inl rfl) rfl) (fun a1010 hM1009 => ?_)
        clear hM966
        refine s_val hM1009 (.inl rfl) rfl rfl (ev_fldw (m := 11) rfl rfl (fun w => by simp [go_sem])) (fun a1012 hM1011 => ?_)
        clear hM1009
        refine s_val hM1011 (.inl rfl) rfl rfl (ev_fldw (m := 16) rfl rfl (fun w => by simp [go_sem])) (fun a1014 hM1013 => ?_)
        clear hM1011
        refine s_val hM1013 (.inl rfl) rfl rfl (ev_load1 (v := .slice (v.cs.A) (v.cs.n) (v.cs.c)) rfl rfl ((HRCT.out.below HB969.out).at_ (m := 5) (by rw [HCT.out]; rfl)) (isAgg_no Try.underlying22 rfl)) (fun a1016 hM1015 => ?_)
        clear hM1013
        refine s_val hM1015 (.inl rfl) rfl rfl (ev_len rfl rfl Try.underlying22) (fun a1018 hM1017 => ?_)
        clear hM1015
        refine s_val hM1017 (.inl rfl) rfl rfl (ev_bin rfl rfl rfl g_int (b_lss (b := true) (by rw [decide_eq_true_eq]; omega))) (fun a1020 hM1019 => ?_)
        clear hM1017
        refine seg_nil (hK1008 _ _ ?_)
        clear hK1008 K1008 QK1008
        have hM1021 := hM1019.cut7 (t1 := 0) (t2 := 1) (t3 := 2) (t4 := 7) (t5 := 9) (t6 := 10) (t7 := 82) rfl rfl rfl rfl rfl rfl rfl
        clear hM1019
        refine wp_cond_true (hM1021.ev (t := 82) rfl) ?_
        refine wp_skip ?_
        refine hK972 _ _ ?_
        refine wp_seq_k fun K1022 hK1022 => ?_
        refine wp_block ?_
        obtain ⟨bb, off, u, hA, HU, hcell, hbb⟩ := ((HS.out.below HB967.out)).cs.int hlt
        have HCE := hide (CellAt.of hcell)
        clear hcell hbb
        have HB1024 : Hid (Below w964.heap.size w964 w964) := Below.refl _ _
        obtain ⟨qa, HQA⟩ : ∃ qz, Hid ((q && (x.c.ss.take j).all (fun z => byB (sgP ps) ls z x.c.d)) = qz) := ⟨_, rfl⟩
        obtain ⟨qu, HQU⟩ : ∃ q, Hid (byB (sgP ps) ls u x.c.d = q) := ⟨_, rfl⟩
        have HST : Hid ((q && (x.c.ss.take (j + 1)).all (fun z => byB (sgP ps) ls z x.c.d)) = (qa && qu)) := by rw [Hid, all_snoc HU.out, ← HQA.out, ← HQU.out, Bool.and_assoc]
        rw [HQA.out] at hM1021
        cases qa
        case true =>
          refine h_open_end 16 rfl (by kernel_rfl) fun K1025 w1026 hb1027 hK1025 => ?_
          have HB1028 := hide (below_then HB967.out hb1027)
          have HB1029 := hide (below_then HB968.out hb1027)
          have HB1030 := hide (below_then HB969.out hb1027)
          have HB1031 := hide (below_then HB970.out hb1027)
          have HB1032 := hide (below_then HB1024.out hb1027)
          clear hb1027 HB967 HB968 HB969 HB970 HB1024
          have hS1033 : Below w1026.heap.size w1026 w1026 := Below.refl _ _
          refine h_val 0 rfl (by kernel_rfl) (by kernel_rfl) (by kernel_rfl) hM1021 (.inl rfl) rfl rfl hS1033 (fun w' hr => (ev_move (.inl rfl) rfl)) (fun a1035 hM1034 => ?_)
          clear hM1021
          refine h_val 1 rfl (by kernel_rfl) (by kernel_rfl) (by kernel_rfl) hM1034 (.inl rfl) rfl rfl hS1033 (fun w' hr => (ev_move (.inl rfl) rfl)) (fun a1037 hM1036 => ?_)
          clear hM1034
          refine h_val 2 rfl (by kernel_rfl) (by kernel_rfl) (by kernel_rfl) hM1036 (.inr ⟨_, _, _, rfl, rfl, rfl⟩) rfl rfl hS1033 (fun w' hr => (ev_move (.inl rfl) rfl)) (fun a1039 hM1038 => ?_)
          clear hM1036
          refine h_val 3 rfl (by kernel_rfl) (by kernel_rfl) (by kernel_rfl) hM1038 (.inr ⟨_, _, _, rfl, rfl, rfl⟩) rfl rfl hS1033 (fun w' hr => (ev_fldw (m := 11) rfl rfl (fun w => by simp [go_sem]))) (fun a1041 hM1040 => ?_)
          clear hM1038
          refine h_val 4 rfl (by kernel_rfl) (by kernel_rfl) (by kernel_rfl) hM1040 (.inr ⟨_, _, _, rfl, rfl, rfl⟩) rfl rfl hS1033 (fun w' hr => (ev_fldw (m := 16) rfl rfl (fun w => by simp [go_sem]))) (fun a1043 hM1042 => ?_)
          clear hM1040
          refine h_val 5 rfl (by kernel_rfl) (by kernel_rfl) (by kernel_rfl) hM1042 (.inr ⟨_, _, _, rfl, rfl, rfl⟩) rfl rfl hS1033 (fun w' hr => (ev_load1 (v := .slice (v.cs.A) (v.cs.n) (v.cs.c)) rfl rfl (((HRCT.out.below HB1030.out).below hr).at_ (m := 5) (by rw [HCT.out]; rfl)) (isAgg_no Try.underlying22 rfl))) (fun a1045 hM1044 => ?_)
          clear hM1042
          refine h_val 6 rfl (by kernel_rfl) (by kernel_rfl) (by kernel_rfl) hM1044 (.inr ⟨_, _, _, rfl, rfl, rfl⟩) rfl rfl hS1033 (fun w' hr => (ev_move (.inl rfl) rfl)) (fun a1047 hM1046 => ?_)
          clear hM1044
          refine h_val 7 rfl (by kernel_rfl) (by kernel_rfl) (by kernel_rfl) hM1046 (.inr ⟨_, _, _, rfl, rfl, rfl⟩) rfl rfl hS1033 (fun w' hr => (ev_idx (b := bb) (k := j) (sz := 1) (p := off + j) rfl (by rw [← hA]; rfl) rfl Try.underlying22 (by kernel_rfl) hlt (by omega))) (fun a1049 hM1048 => ?_)
          clear hM1046
          refine h_val 8 rfl (by kernel_rfl) (by kernel_rfl) (by kernel_rfl) hM1048 (.inr ⟨_, _, _, rfl, rfl, rfl⟩) rfl rfl hS1033 (fun w' hr => (ev_load1 (v := .int .i64 u) rfl rfl (((HCE.out.below HB1032.out).below hr)).2 (isAgg_no Try.underlying3 rfl))) (fun a1051 hM1050 => ?_)
          clear hM1048
          refine h_val 9 rfl (by kernel_rfl) (by kernel_rfl) (by kernel_rfl) hM1050 (.inr ⟨_, _, _, rfl, rfl, rfl⟩) rfl rfl hS1033 (fun w' hr => (ev_fldw (m := 11) rfl rfl (fun w => by simp [go_sem]))) (fun a1053 hM1052 => ?_)
          clear hM1050
          refine h_val 10 rfl (by kernel_rfl) (by kernel_rfl) (by kernel_rfl) hM1052 (.inr ⟨_, _, _, rfl, rfl, rfl⟩) rfl rfl hS1033 (fun w' hr => (ev_fldw (m := 15) rfl rfl (fun w => by simp [go_sem]))) (fun a1055 hM1054 => ?_)
          clear hM1052
          refine h_val 11 rfl (by kernel_rfl) (by kernel_rfl) (by kernel_rfl) hM1054 (.inr ⟨_, _, _, rfl, rfl, rfl⟩) rfl rfl hS1033 (fun w' hr => (ev_load1 (v := .int .i64 (x.c.d)) rfl rfl (((HRCT.out.below HB1030.out).below hr).at_ (m := 4) (by rw [HCT.out]; rfl)) (isAgg_no Try.underlying3 rfl))) (fun a1057 hM1056 => ?_)
          clear hM1054
          refine h_val 12 rfl (by kernel_rfl) (by kernel_rfl) (by kernel_rfl) hM1056 (.inr ⟨_, _, _, rfl, rfl, rfl⟩) rfl rfl hS1033 (fun w' hr => (ev_move (.inl rfl) rfl)) (fun a1059 hM1058 => ?_)
          clear hM1056
          refine h_call 13 rfl (by kernel_rfl) hM1058 (.inr ⟨_, _, _, rfl, rfl, rfl⟩) rfl rfl (f := 46) (args := #[.pointer (some ⟨g, 0, none⟩), .int .i64 u, .int .i64 (x.c.d), .slice A n c]) (ev_call hM1058 rfl rfl rfl (fun w => by simp [go_sem]) _) (ref5_by u x.c.d _ (HB.out.below HB1028.out) (HL.out.below HB1028.out) hn HQU) (fun e w1060 hp => ?_)
          obtain ⟨rfl, rfl⟩ := hp
          refine ⟨_, rfl, fun a1063 hM1062 => ⟨hS1033, ?_⟩⟩
          clear hM1058
          refine h_val 14 rfl (by kernel_rfl) (by kernel_rfl) (by kernel_rfl) hM1062 (.inl rfl) rfl rfl hS1033 (fun w' hr => (ev_pick rfl rfl rfl)) (fun a1065 hM1064 => ?_)
          clear hM1062
          refine h_val 15 rfl (by kernel_rfl) (by kernel_rfl) (by kernel_rfl) hM1064 (.inl rfl) rfl rfl hS1033 (fun w' hr => (ev_move (.inr rfl) rfl)) (fun a1067 hM1066 => ?_)
          clear hM1064
          refine h_nil (by kernel_rfl) (hK1025 _ _ ?_)
          clear hK1025 K1025 hS1033 
          rw [show (.bool qu : Value) = .bool (q && (x.c.ss.take (j + 1)).all (fun z => byB (sgP ps) ls z x.c.d)) from by rw [HST.out]; rfl] at hM1066
          have hM1068 := hM1066.cut6 (t1 := 0) (t2 := 1) (t3 := 2) (t4 := 7) (t5 := 9) (t6 := 10) rfl rfl rfl rfl rfl rfl
          clear hM1066
          refine inb_n ?_
          refine hK1022 _ _ ?_
          refine region_last fun K1069 QK1069 hK1069 => ?_
          refine s_val hM1068 (.inl rfl) rfl rfl (ev_move (.inl rfl) rfl) (fun a1071 hM1070 => ?_)
          clear hM1068
          refine s_val hM1070 (.inl rfl) rfl rfl (ev_bin rfl rfl rfl g_int (b_add (r := ((j + 1 : Nat) : Int)) (by omega) (by have := HZ.out.cs; omega))) (fun a1073 hM1072 => ?_)
          clear hM1070
          refine s_val hM1072 (.inl rfl) rfl rfl (ev_move (.inr rfl) rfl) (fun a1075 hM1074 => ?_)
          clear hM1072
          refine seg_nil (hK1069 _ _ ?_)
          clear hK1069 K1069 QK1069
          have hM1076 := hM1074.cut6 (t1 := 0) (t2 := 1) (t3 := 2) (t4 := 7) (t5 := 9) (t6 := 10) rfl rfl rfl rfl rfl rfl
          clear hM1074
          have hM1077 := hM1076.cut6 (t1 := 10) (t2 := 0) (t3 := 1) (t4 := 2) (t5 := 7) (t6 := 9) rfl rfl rfl rfl rfl rfl
          clear hM1076
          exact ⟨v.cs.n - (j + 1), by omega, j + 1, rfl, hM1077, HB1028, HB1029, HB1030, HB1031, (by omega)⟩
        case false =>
          refine h_open_end 16 rfl (by kernel_rfl) fun K1078 w1079 hb1080 hK1078 => ?_
          have HB1081 := hide (below_then HB967.out hb1080)
          have HB1082 := hide (below_then HB968.out hb1080)
          have HB1083 := hide (below_then HB969.out hb1080)
          have HB1084 := hide (below_then HB970.out hb1080)
          have HB1085 := hide (below_then HB1024.out hb1080)
          clear hb1080 HB967 HB968 HB969 HB970 HB1024
          have hS1086 : Below w1079.heap.size w1079 w1079 := Below.refl _ _
          refine h_val 0 rfl (by kernel_rfl) (by kernel_rfl) (by kernel_rfl) hM1021 (.inl rfl) rfl rfl hS1086 (fun w' hr => (ev_move (.inl rfl) rfl)) (fun a1088 hM1087 => ?_)
          clear hM1021
          refine h_val 1 rfl (by kernel_rfl) (by kernel_rfl) (by kernel_rfl) hM1087 (.inl rfl) rfl rfl hS1086 (fun w' hr => (ev_move (.inl rfl) rfl)) (fun a1090 hM1089 => ?_)
          clear hM1087
          refine h_skip 2 rfl (by kernel_rfl) (by kernel_rfl) (by kernel_rfl) hM1089 rfl rfl rfl rfl rfl rfl hS1086 (fun a1092 hM1091 => ?_)
          clear hM1089
          refine h_skip 3 rfl (by kernel_rfl) (by kernel_rfl) (by kernel_rfl) hM1091 rfl rfl rfl rfl rfl rfl hS1086 (fun a1094 hM1093 => ?_)
          clear hM1091
          refine h_skip 4 rfl (by kernel_rfl) (by kernel_rfl) (by kernel_rfl) hM1093 rfl rfl rfl rfl rfl rfl hS1086 (fun a1096 hM1095 => ?_)
          clear hM1093
          refine h_skip 5 rfl (by kernel_rfl) (by kernel_rfl) (by kernel_rfl) hM1095 rfl rfl rfl rfl rfl rfl hS1086 (fun a1098 hM1097 => ?_)
          clear hM1095
          refine h_skip 6 rfl (by kernel_rfl) (by kernel_rfl) (by kernel_rfl) hM1097 rfl rfl rfl rfl rfl rfl hS1086 (fun a1100 hM1099 => ?_)
          clear hM1097
          refine h_skip 7 rfl (by kernel_rfl) (by kernel_rfl) (by kernel_rfl) hM1099 rfl rfl rfl rfl rfl rfl hS1086 (fun a1102 hM1101 => ?_)
          clear hM1099
          refine h_skip 8 rfl (by kernel_rfl) (by kernel_rfl) (by kernel_rfl) hM1101 rfl rfl rfl rfl rfl rfl hS1086 (fun a1104 hM1103 => ?_)
          clear hM1101
          refine h_skip 9 rfl (by kernel_rfl) (by kernel_rfl) (by kernel_rfl) hM1103 rfl rfl rfl rfl rfl rfl hS1086 (fun a1106 hM1105 => ?_)
          clear hM1103
          refine h_skip 10 rfl (by kernel_rfl) (by kernel_rfl) (by kernel_rfl) hM1105 rfl rfl rfl rfl rfl rfl hS1086 (fun a1108 hM1107 => ?_)
          clear hM1105
          refine h_skip 11 rfl (by kernel_rfl) (by kernel_rfl) (by kernel_rfl) hM1107 rfl rfl rfl rfl rfl rfl hS1086 (fun a1110 hM1109 => ?_)
          clear hM1107
          refine h_skip 12 rfl (by kernel_rfl) (by kernel_rfl) (by kernel_rfl) hM1109 rfl rfl rfl rfl rfl rfl hS1086 (fun a1112 hM1111 => ?_)
          clear hM1109
          refine h_skip 13 rfl (by kernel_rfl) (by kernel_rfl) (by kernel_rfl) hM1111 rfl rfl rfl rfl rfl rfl hS1086 (fun a1114 hM1113 => ?_)
          clear hM1111
          refine h_val 14 rfl (by kernel_rfl) (by kernel_rfl) (by kernel_rfl) hM1113 (.inl rfl) rfl rfl hS1086 (fun w' hr => (ev_pick rfl rfl rfl)) (fun a1116 hM1115 => ?_)
          clear hM1113
          refine h_val 15 rfl (by kernel_rfl) (by kernel_rfl) (by kernel_rfl) hM1115 (.inl rfl) rfl rfl hS1086 (fun w' hr => (ev_move (.inr rfl) rfl)) (fun a1118 hM1117 => ?_)
          clear hM1115
          refine h_nil (by kernel_rfl) (hK1078 _ _ ?_)
          clear hK1078 K1078 hS1086 
          rw [show (.bool false : Value) = .bool (q && (x.c.ss.take (j + 1)).all (fun z => byB (sgP ps) ls z x.c.d)) from by rw [HST.out]; rfl] at hM1117
          have hM1119 := hM1117.cut6 (t1 := 0) (t2 := 1) (t3 := 2) (t4 := 7) (t5 := 9) (t6 := 10) rfl rfl rfl rfl rfl rfl
          clear hM1117
          refine inb_n ?_
          refine hK1022 _ _ ?_
          refine region_last fun K1120 QK1120 hK1120 => ?_
          refine s_val hM1119 (.inl rfl) rfl rfl (ev_move (.inl rfl) rfl) (fun a1122 hM1121 => ?_)
          clear hM1119
          refine s_val hM1121 (.inl rfl) rfl rfl (ev_bin rfl rfl rfl g_int (b_add (r := ((j + 1 : Nat) : Int)) (by omega) (by have := HZ.out.cs; omega))) (fun a1124 hM1123 => ?_)
          clear hM1121
          refine s_val hM1123 (.inl rfl) rfl rfl (ev_move (.inr rfl) rfl) (fun a1126 hM1125 => ?_)
          clear hM1123
          refine seg_nil (hK1120 _ _ ?_)
          clear hK1120 K1120 QK1120
          have hM1127 := hM1125.cut6 (t1 := 0) (t2 := 1) (t3 := 2) (t4 := 7) (t5 := 9) (t6 := 10) rfl rfl rfl rfl rfl rfl
          clear hM1125
          have hM1128 := hM1127.cut6 (t1 := 10) (t2 := 0) (t3 := 1) (t4 := 2) (t5 := 7) (t6 := 9) rfl rfl rfl rfl rfl rfl
          clear hM1127
          exact ⟨v.cs.n - (j + 1), by omega, j + 1, rfl, hM1128, HB1081, HB1082, HB1083, HB1084, (by omega)⟩
    · skip
      have HR := hr.out
      rw [real_78 (.inl hk)] at HR
      have HR := hide HR
      have HK := hide hk
      clear hk
      obtain ⟨AL, cL, -, -, -, -, k0, -, -, hl0, -⟩ := ((HB.out.below HB45.out)).open_
      have HCL := hide (CellAt.of k0)
      clear k0
      have HB1130 : Hid (Below w41.heap.size w41 w41) := Below.refl _ _
      refine region_then fun K1131 QK1131 hK1131 => ?_
      refine s_val hM60 (.inl rfl) rfl rfl (ev_bin rfl rfl rfl g_int (b_eql (b := false) (by have := HK.out; simp [this]))) (fun a1133 hM1132 => ?_)
      clear hM60
      refine s_val hM1132 (.inl rfl) rfl rfl (ev_move (.inr rfl) rfl) (fun a1135 hM1134 => ?_)
      clear hM1132
      refine seg_nil (hK1131 _ _ ?_)
      clear hK1131 K1131 QK1131
      have hM1136 := hM1134.cut7 (t1 := 0) (t2 := 1) (t3 := 2) (t4 := 7) (t5 := 9) (t6 := 16) (t7 := 25) rfl rfl rfl rfl rfl rfl rfl
      clear hM1134
      refine wp_cond_false (hM1136.ev (t := 25) rfl) ?_
      refine region_last fun K1137 QK1137 hK1137 => ?_
      refine s_val hM1136 (.inl rfl) rfl rfl (ev_bin rfl rfl rfl g_int (b_eql (b := false) (by have := HK.out; simp [this]))) (fun a1139 hM1138 => ?_)
      clear hM1136
      refine s_val hM1138 (.inl rfl) rfl rfl (ev_move (.inr rfl) rfl) (fun a1141 hM1140 => ?_)
      clear hM1138
      refine seg_nil (hK1137 _ _ ?_)
      clear hK1137 K1137 QK1137
      have hM1142 := hM1140.cut7 (t1 := 0) (t2 := 1) (t3 := 2) (t4 := 7) (t5 := 9) (t6 := 16) (t7 := 25) rfl rfl rfl rfl rfl rfl rfl
      clear hM1140
      refine hK61 _ _ ?_
      refine wp_cond_false (hM1142.ev (t := 25) rfl) ?_
      refine region_then fun K1143 QK1143 hK1143 => ?_
      refine s_val hM1142 (.inl rfl) rfl rfl (ev_bin rfl rfl rfl g_int (b_eql (b := false) (by have := HK.out; simp [this]))) (fun a1145 hM1144 => ?_)
      clear hM1142
      refine s_val hM1144 (.inl rfl) rfl rfl (ev_move (.inr rfl) rfl) (fun a1147 hM1146 => ?_)
      clear hM1144
      refine seg_nil (hK1143 _ _ ?_)
      clear hK1143 K1143 QK1143
      have hM1148 := hM1146.cut8 (t1 := 0) (t2 := 1) (t3 := 2) (t4 := 7) (t5 := 9) (t6 := 16) (t7 := 25) (t8 := 46) rfl rfl rfl rfl rfl rfl rfl rfl
      clear hM1146
      refine wp_cond_false (hM1148.ev (t := 46) rfl) ?_
      refine region_then fun K1149 QK1149 hK1149 => ?_
      refine s_val hM1148 (.inl rfl) rfl rfl (ev_bin rfl rfl rfl g_int (b_eql (b := false) (by have := HK.out; simp [this]))) (fun a1151 hM1150 => ?_)
      clear hM1148
      refine s_val hM1150 (.inl rfl) rfl rfl (ev_move (.inr rfl) rfl) (fun a1153 hM1152 => ?_)
      clear hM1150
      refine seg_nil (hK1149 _ _ ?_)
      clear hK1149 K1149 QK1149
      have hM1154 := hM1152.cut9 (t1 := 0) (t2 := 1) (t3 := 2) (t4 := 7) (t5 := 9) (t6 := 16) (t7 := 25) (t8 := 46) (t9 := 65) rfl rfl rfl rfl rfl rfl rfl rfl rfl
      clear hM1152
      refine wp_cond_false (hM1154.ev (t := 65) rfl) ?_
      refine region_then fun K1155 QK1155 hK1155 => ?_
      refine s_val hM1154 (.inl rfl) rfl rfl (ev_bin rfl rfl rfl g_int (b_eql (b := false) (by have := HK.out; simp [this]))) (fun a1157 hM1156 => ?_)
      clear hM1154
      refine s_val hM1156 (.inl rfl) rfl rfl (ev_move (.inr rfl) rfl) (fun a1159 hM1158 => ?_)
      clear hM1156
      refine seg_nil (hK1155 _ _ ?_)
      clear hK1155 K1155 QK1155
      have hM1160 := hM1158.cut10 (t1 := 0) (t2 := 1) (t3 := 2) (t4 := 7) (t5 := 9) (t6 := 16) (t7 := 25) (t8 := 46) (t9 := 65) (t10 := 100) rfl rfl rfl rfl rfl rfl rfl rfl rfl rfl
      clear hM1158
      refine wp_cond_false (hM1160.ev (t := 100) rfl) ?_
      refine region_then fun K1161 QK1161 hK1161 => ?_
      refine s_val hM1160 (.inl rfl) rfl rfl (ev_bin rfl rfl rfl g_int (b_eql (b := false) (by have := HK.out; simp [this]))) (fun a1163 hM1162 => ?_)
      clear hM1160
      refine s_val hM1162 (.inl rfl) rfl rfl (ev_move (.inr rfl) rfl) (fun a1165 hM1164 => ?_)
      clear hM1162
      refine seg_nil (hK1161 _ _ ?_)
      clear hK1161 K1161 QK1161
      have hM1166 := hM1164.cut11 (t1 := 0) (t2 := 1) (t3 := 2) (t4 := 7) (t5 := 9) (t6 := 16) (t7 := 25) (t8 := 46) (t9 := 65) (t10 := 100) (t11 := 110) rfl rfl rfl rfl rfl rfl rfl rfl rfl rfl rfl
      clear hM1164
      refine wp_cond_false (hM1166.ev (t := 110) rfl) ?_
      refine h_open_end 9 rfl (by kernel_rfl) fun K1167 w1168 hb1169 hK1167 => ?_
      have HB1170 := hide (below_then HB45.out hb1169)
      have HB1171 := hide (below_then HB46.out hb1169)
      have HB1172 := hide (below_then HB1130.out hb1169)
      clear hb1169 HB45 HB46 HB1130
      have hS1173 : Below w1168.heap.size w1168 w1168 := Below.refl _ _
      refine h_val 0 rfl (by kernel_rfl) (by kernel_rfl) (by kernel_rfl) hM1166 (.inl rfl) rfl rfl hS1173 (fun w' hr => (ev_fldw (m := 17) rfl rfl (fun w => by simp [go_sem]))) (fun a1175 hM1174 => ?_)
      clear hM1166
      refine h_val 1 rfl (by kernel_rfl) (by kernel_rfl) (by kernel_rfl) hM1174 (.inl rfl) rfl rfl hS1173 (fun w' hr => (ev_load1 (v := .slice (v.ds.A) (v.ds.n) (v.ds.c)) rfl rfl (((KB8.out.on HB1171.out).on hr).rng.at_ (m := 17) (by rw [HC.out]; rfl)) (isAgg_no Try.underlying22 rfl))) (fun a1177 hM1176 => ?_)
      clear hM1174
      refine h_val 2 rfl (by kernel_rfl) (by kernel_rfl) (by kernel_rfl) hM1176 (.inl rfl) rfl rfl hS1173 (fun w' hr => (ev_move (.inl rfl) rfl)) (fun a1179 hM1178 => ?_)
      clear hM1176
      refine h_val 3 rfl (by kernel_rfl) (by kernel_rfl) (by kernel_rfl) hM1178 (.inl rfl) rfl rfl hS1173 (fun w' hr => (ev_nilc rfl rfl)) (fun a1181 hM1180 => ?_)
      clear hM1178
      refine h_val 4 rfl (by kernel_rfl) (by kernel_rfl) (by kernel_rfl) hM1180 (.inl rfl) rfl rfl hS1173 (fun w' hr => (ev_fldw (m := 0) rfl rfl (fun w => by simp [go_sem]))) (fun a1183 hM1182 => ?_)
      clear hM1180
      refine h_val 5 rfl (by kernel_rfl) (by kernel_rfl) (by kernel_rfl) hM1182 (.inl rfl) rfl rfl hS1173 (fun w' hr => (ev_load1 (v := .slice AL L.length cL) rfl rfl (((HCL.out.below HB1172.out).below hr)).2 (isAgg_no (P := Try.prog) (d := .slice 60) (by kernel_rfl) rfl))) (fun a1185 hM1184 => ?_)
      clear hM1182
      refine h_val 6 rfl (by kernel_rfl) (by kernel_rfl) (by kernel_rfl) hM1184 (.inl rfl) rfl rfl hS1173 (fun w' hr => (ev_len rfl rfl Try.underlying31)) (fun a1187 hM1186 => ?_)
      clear hM1184
      refine h_call 7 rfl (by kernel_rfl) hM1186 (.inl rfl) rfl rfl (f := 47) (args := #[.slice (v.ds.A) (v.ds.n) (v.ds.c), .int .i64 1, .int .i64 ((L.length : Int))]) (ev_call hM1186 rfl rfl rfl (fun w => by simp [go_sem]) _) (ref0_Between 1 L.length _ ((HS.out.below HB1170.out)).ds HZ.out.ds HR) (fun e w1188 hp => ?_)
      obtain ⟨rfl, rfl⟩ := hp
      refine ⟨_, rfl, fun a1191 hM1190 => ⟨hS1173, ?_⟩⟩
      clear hM1186
      refine h_val 8 rfl (by kernel_rfl) (by kernel_rfl) (by kernel_rfl) hM1190 (.inl rfl) rfl rfl hS1173 (fun w' hr => (ev_move (.inr rfl) rfl)) (fun a1193 hM1192 => ?_)
      clear hM1190
      refine h_nil (by kernel_rfl) (hK1167 _ _ ?_)
      clear hK1167 K1167 hS1173 
      have hM1194 := hM1192.cut5 (t1 := 0) (t2 := 1) (t3 := 2) (t4 := 7) (t5 := 9) rfl rfl rfl rfl rfl
      clear hM1192
      refine inb_n ?_
      refine hK54 _ _ ?_
      refine wp_seq_k fun K1195 hK1195 => ?_
      have HV : Hid (rr = rr) := hide rfl
      clear HV
      cases rr
      case true =>
        simp only [Bool.false_eq_true, if_false, if_true] at HE
        refine region_then fun K1196 QK1196 hK1196 => ?_
        refine s_val hM1194 (.inl rfl) rfl rfl (ev_move (.inl rfl) rfl) (fun a1198 hM1197 => ?_)
        clear hM1194
        refine s_val hM1197 (.inl rfl) rfl rfl (ev_not rfl rfl rfl) (fun a1200 hM1199 => ?_)
        clear hM1197
        refine seg_nil (hK1196 _ _ ?_)
        clear hK1196 K1196 QK1196
        have hM1201 := hM1199.cut1 (t1 := 130) rfl
        clear hM1199
        refine wp_cond_false (hM1201.ev (t := 130) rfl) ?_
        refine wp_skip ?_
        refine hK1195 _ _ ?_
        refine region_then fun K1202 QK1202 hK1202 => ?_
        refine s_val hM1201 (.inl rfl) rfl rfl (ev_move (.inr rfl) rfl) (fun a1204 hM1203 => ?_)
        clear hM1201
        refine seg_nil (hK1202 _ _ ?_)
        clear hK1202 K1202 QK1202
        have hM1205 := hM1203.cut1 (t1 := 8) rfl
        clear hM1203
        refine wp_ret ?_
        repeat (with_reducible first | refine th_r ?_ | refine inb_r ?_ | refine js_r ?_)
        refine ret_of (t := 8) rfl hM1205 rfl ?_
        first | exact ⟨ret_int HE, HB1170.out⟩ | exact ⟨ret_int HE.out, HB1170.out⟩
      case false =>
        simp only [Bool.false_eq_true, if_false, if_true] at HE
        refine region_then fun K1206 QK1206 hK1206 => ?_
        refine s_val hM1194 (.inl rfl) rfl rfl (ev_move (.inl rfl) rfl) (fun a1208 hM1207 => ?_)
        clear hM1194
        refine s_val hM1207 (.inl rfl) rfl rfl (ev_not rfl rfl rfl) (fun a1210 hM1209 => ?_)
        clear hM1207
        refine seg_nil (hK1206 _ _ ?_)
        clear hK1206 K1206 QK1206
        have hM1211 := hM1209.cut1 (t1 := 130) rfl
        clear hM1209
        refine wp_cond_true (hM1211.ev (t := 130) rfl) ?_
        refine region_then fun K1212 QK1212 hK1212 => ?_
        refine s_val hM1211 (.inl rfl) rfl rfl (ev_move (.inr rfl) rfl) (fun a1214 hM1213 => ?_)
        clear hM1211
        refine seg_nil (hK1212 _ _ ?_)
        clear hK1212 K1212 QK1212
        have hM1215 := hM1213.cut1 (t1 := 8) rfl
        clear hM1213
        refine wp_ret ?_
        repeat (with_reducible first | refine th_r ?_ | refine inb_r ?_ | refine js_r ?_)
        refine ret_of (t := 8) rfl hM1215 rfl ?_
        first | exact ⟨ret_int HE, HB1170.out⟩ | exact ⟨ret_int HE.out, HB1170.out⟩
    · skip
      have HR := hr.out
      rw [real_78 (.inr hk)] at HR
      have HR := hide HR
      have HK := hide hk
      clear hk
      obtain ⟨AL, cL, -, -, -, -, k0, -, -, hl0, -⟩ := ((HB.out.below HB45.out)).open_
      have HCL := hide (CellAt.of k0)
      clear k0
      have HB1217 : Hid (Below w41.heap.size w41 w41) := Below.refl _ _
      refine region_then fun K1218 QK1218 hK1218 => ?_
      refine s_val hM60 (.inl rfl) rfl rfl (ev_bin rfl rfl rfl g_int (b_eql (b := false) (by have := HK.out; simp [this]))) (fun a1220 hM1219 => ?_)
      clear hM60
      refine s_val hM1219 (.inl rfl) rfl rfl (ev_move (.inr rfl) rfl) (fun a1222 hM1221 => ?_)
      clear hM1219
      refine seg_nil (hK1218 _ _ ?_)
      clear hK1218 K1218 QK1218
      have hM1223 := hM1221.cut7 (t1 := 0) (t2 := 1) (t3 := 2) (t4 := 7) (t5 := 9) (t6 := 16) (t7 := 25) rfl rfl rfl rfl rfl rfl rfl
      clear hM1221
      refine wp_cond_false (hM1223.ev (t := 25) rfl) ?_
      refine region_last fun K1224 QK1224 hK1224 => ?_
      refine s_val hM1223 (.inl rfl) rfl rfl (ev_bin rfl rfl rfl g_int (b_eql (b := false) (by have := HK.out; simp [this]))) (fun a1226 hM1225 => ?_)
      clear hM1223
      refine s_val hM1225 (.inl rfl) rfl rfl (ev_move (.inr rfl) rfl) (fun a1228 hM1227 => ?_)
      clear hM1225
      refine seg_nil (hK1224 _ _ ?_)
      clear hK1224 K1224 QK1224
      have hM1229 := hM1227.cut7 (t1 := 0) (t2 := 1) (t3 := 2) (t4 := 7) (t5 := 9) (t6 := 16) (t7 := 25) rfl rfl rfl rfl rfl rfl rfl
      clear hM1227
      refine hK61 _ _ ?_
      refine wp_cond_false (hM1229.ev (t := 25) rfl) ?_
      refine region_then fun K1230 QK1230 hK1230 => ?_
      refine s_val hM1229 (.inl rfl) rfl rfl (ev_bin rfl rfl rfl g_int (b_eql (b := false) (by have := HK.out; simp [this]))) (fun a1232 hM1231 => ?_)
      clear hM1229
      refine s_val hM1231 (.inl rfl) rfl rfl (ev_move (.inr rfl) rfl) (fun a1234 hM1233 => ?_)
      clear hM1231
      refine seg_nil (hK1230 _ _ ?_)
      clear hK1230 K1230 QK1230
      have hM1235 := hM1233.cut8 (t1 := 0) (t2 := 1) (t3 := 2) (t4 := 7) (t5 := 9) (t6 := 16) (t7 := 25) (t8 := 46) rfl rfl rfl rfl rfl rfl rfl rfl
      clear hM1233
      refine wp_cond_false (hM1235.ev (t := 46) rfl) ?_
      refine region_then fun K1236 QK1236 hK1236 => ?_
      refine s_val hM1235 (.inl rfl) rfl rfl (ev_bin rfl rfl rfl g_int (b_eql (b := false) (by have := HK.out; simp [this]))) (fun a1238 hM1237 => ?_)
      clear hM1235
      refine s_val hM1237 (.inl rfl) rfl rfl (ev_move (.inr rfl) rfl) (fun a1240 hM1239 => ?_)
      clear hM1237
      refine seg_nil (hK1236 _ _ ?_)
      clear hK1236 K1236 QK1236
      have hM1241 := hM1239.cut9 (t1 := 0) (t2 := 1) (t3 := 2) (t4 := 7) (t5 := 9) (t6 := 16) (t7 := 25) (t8 := 46) (t9 := 65) rfl rfl rfl rfl rfl rfl rfl rfl rfl
      clear hM1239
      refine wp_cond_false (hM1241.ev (t := 65) rfl) ?_
      refine region_then fun K1242 QK1242 hK1242 => ?_
      refine s_val hM1241 (.inl rfl) rfl rfl (ev_bin rfl rfl rfl g_int (b_eql (b := false) (by have := HK.out; simp [this]))) (fun a1244 hM1243 => ?_)
      clear hM1241
      refine s_val hM1243 (.inl rfl) rfl rfl (ev_move (.inr rfl) rfl) (fun a1246 hM1245 => ?_)
      clear hM1243
      refine seg_nil (hK1242 _ _ ?_)
      clear hK1242 K1242 QK1242
      have hM1247 := hM1245.cut10 (t1 := 0) (t2 := 1) (t3 := 2) (t4 := 7) (t5 := 9) (t6 := 16) (t7 := 25) (t8 := 46) (t9 := 65) (t10 := 100) rfl rfl rfl rfl rfl rfl rfl rfl rfl rfl
      clear hM1245
      refine wp_cond_false (hM1247.ev (t := 100) rfl) ?_
      refine region_then fun K1248 QK1248 hK1248 => ?_
      refine s_val hM1247 (.inl rfl) rfl rfl (ev_bin rfl rfl rfl g_int (b_eql (b := false) (by have := HK.out; simp [this]))) (fun a1250 hM1249 => ?_)
      clear hM1247
      refine s_val hM1249 (.inl rfl) rfl rfl (ev_move (.inr rfl) rfl) (fun a1252 hM1251 => ?_)
      clear hM1249
      refine seg_nil (hK1248 _ _ ?_)
      clear hK1248 K1248 QK1248
      have hM1253 := hM1251.cut11 (t1 := 0) (t2 := 1) (t3 := 2) (t4 := 7) (t5 := 9) (t6 := 16) (t7 := 25) (t8 := 46) (t9 := 65) (t10 := 100) (t11 := 110) rfl rfl rfl rfl rfl rfl rfl rfl rfl rfl rfl
      clear hM1251
      refine wp_cond_false (hM1253.ev (t := 110) rfl) ?_
      refine h_open_end 9 rfl (by kernel_rfl) fun K1254 w1255 hb1256 hK1254 => ?_
      have HB1257 := hide (below_then HB45.out hb1256)
      have HB1258 := hide (below_then HB46.out hb1256)
      have HB1259 := hide (below_then HB1217.out hb1256)
      clear hb1256 HB45 HB46 HB1217
      have hS1260 : Below w1255.heap.size w1255 w1255 := Below.refl _ _
      refine h_val 0 rfl (by kernel_rfl) (by kernel_rfl) (by kernel_rfl) hM1253 (.inl rfl) rfl rfl hS1260 (fun w' hr => (ev_fldw (m := 17) rfl rfl (fun w => by simp [go_sem]))) (fun a1262 hM1261 => ?_)
      clear hM1253
      refine h_val 1 rfl (by kernel_rfl) (by kernel_rfl) (by kernel_rfl) hM1261 (.inl rfl) rfl rfl hS1260 (fun w' hr => (ev_load1 (v := .slice (v.ds.A) (v.ds.n) (v.ds.c)) rfl rfl (((KB8.out.on HB1258.out).on hr).rng.at_ (m := 17) (by rw [HC.out]; rfl)) (isAgg_no Try.underlying22 rfl))) (fun a1264 hM1263 => ?_)
      clear hM1261
      refine h_val 2 rfl (by kernel_rfl) (by kernel_rfl) (by kernel_rfl) hM1263 (.inl rfl) rfl rfl hS1260 (fun w' hr => (ev_move (.inl rfl) rfl)) (fun a1266 hM1265 => ?_)
      clear hM1263
      refine h_val 3 rfl (by kernel_rfl) (by kernel_rfl) (by kernel_rfl) hM1265 (.inl rfl) rfl rfl hS1260 (fun w' hr => (ev_nilc rfl rfl)) (fun a1268 hM1267 => ?_)
      clear hM1265
      refine h_val 4 rfl (by kernel_rfl) (by kernel_rfl) (by kernel_rfl) hM1267 (.inl rfl) rfl rfl hS1260 (fun w' hr => (ev_fldw (m := 0) rfl rfl (fun w => by simp [go_sem]))) (fun a1270 hM1269 => ?_)
      clear hM1267
      refine h_val 5 rfl (by kernel_rfl) (by kernel_rfl) (by kernel_rfl) hM1269 (.inl rfl) rfl rfl hS1260 (fun w' hr => (ev_load1 (v := .slice AL L.length cL) rfl rfl (((HCL.out.below HB1259.out).below hr)).2 (isAgg_no (P := Try.prog) (d := .slice 60) (by kernel_rfl) rfl))) (fun a1272 hM1271 => ?_)
      clear hM1269
      refine h_val 6 rfl (by kernel_rfl) (by kernel_rfl) (by kernel_rfl) hM1271 (.inl rfl) rfl rfl hS1260 (fun w' hr => (ev_len rfl rfl Try.underlying31)) (fun a1274 hM1273 => ?_)
      clear hM1271
      refine h_call 7 rfl (by kernel_rfl) hM1273 (.inl rfl) rfl rfl (f := 47) (args := #[.slice (v.ds.A) (v.ds.n) (v.ds.c), .int .i64 1, .int .i64 ((L.length : Int))]) (ev_call hM1273 rfl rfl rfl (fun w => by simp [go_sem]) _) (ref0_Between 1 L.length _ ((HS.out.below HB1257.out)).ds HZ.out.ds HR) (fun e w1275 hp => ?_)
      obtain ⟨rfl, rfl⟩ := hp
      refine ⟨_, rfl, fun a1278 hM1277 => ⟨hS1260, ?_⟩⟩
      clear hM1273
      refine h_val 8 rfl (by kernel_rfl) (by kernel_rfl) (by kernel_rfl) hM1277 (.inl rfl) rfl rfl hS1260 (fun w' hr => (ev_move (.inr rfl) rfl)) (fun a1280 hM1279 => ?_)
      clear hM1277
      refine h_nil (by kernel_rfl) (hK1254 _ _ ?_)
      clear hK1254 K1254 hS1260 
      have hM1281 := hM1279.cut5 (t1 := 0) (t2 := 1) (t3 := 2) (t4 := 7) (t5 := 9) rfl rfl rfl rfl rfl
      clear hM1279
      refine inb_n ?_
      refine hK54 _ _ ?_
      refine wp_seq_k fun K1282 hK1282 => ?_
      have HV : Hid (rr = rr) := hide rfl
      clear HV
      cases rr
      case true =>
        simp only [Bool.false_eq_true, if_false, if_true] at HE
        refine region_then fun K1283 QK1283 hK1283 => ?_
        refine s_val hM1281 (.inl rfl) rfl rfl (ev_move (.inl rfl) rfl) (fun a1285 hM1284 => ?_)
        clear hM1281
        refine s_val hM1284 (.inl rfl) rfl rfl (ev_not rfl rfl rfl) (fun a1287 hM1286 => ?_)
        clear hM1284
        refine seg_nil (hK1283 _ _ ?_)
        clear hK1283 K1283 QK1283
        have hM1288 := hM1286.cut1 (t1 := 130) rfl
        clear hM1286
        refine wp_cond_false (hM1288.ev (t := 130) rfl) ?_
        refine wp_skip ?_
        refine hK1282 _ _ ?_
        refine region_then fun K1289 QK1289 hK1289 => ?_
        refine s_val hM1288 (.inl rfl) rfl rfl (ev_move (.inr rfl) rfl) (fun a1291 hM1290 => ?_)
        clear hM1288
        refine seg_nil (hK1289 _ _ ?_)
        clear hK1289 K1289 QK1289
        have hM1292 := hM1290.cut1 (t1 := 8) rfl
        clear hM1290
        refine wp_ret ?_
        repeat (with_reducible first | refine th_r ?_ | refine inb_r ?_ | refine js_r ?_)
        refine ret_of (t := 8) rfl hM1292 rfl ?_
        first | exact ⟨ret_int HE, HB1257.out⟩ | exact ⟨ret_int HE.out, HB1257.out⟩
      case false =>
        simp only [Bool.false_eq_true, if_false, if_true] at HE
        refine region_then fun K1293 QK1293 hK1293 => ?_
        refine s_val hM1281 (.inl rfl) rfl rfl (ev_move (.inl rfl) rfl) (fun a1295 hM1294 => ?_)
        clear hM1281
        refine s_val hM1294 (.inl rfl) rfl rfl (ev_not rfl rfl rfl) (fun a1297 hM1296 => ?_)
        clear hM1294
        refine seg_nil (hK1293 _ _ ?_)
        clear hK1293 K1293 QK1293
        have hM1298 := hM1296.cut1 (t1 := 130) rfl
        clear hM1296
        refine wp_cond_true (hM1298.ev (t := 130) rfl) ?_
        refine region_then fun K1299 QK1299 hK1299 => ?_
        refine s_val hM1298 (.inl rfl) rfl rfl (ev_move (.inr rfl) rfl) (fun a1301 hM1300 => ?_)
        clear hM1298
        refine seg_nil (hK1299 _ _ ?_)
        clear hK1299 K1299 QK1299
        have hM1302 := hM1300.cut1 (t1 := 8) rfl
        clear hM1300
        refine wp_ret ?_
        repeat (with_reducible first | refine th_r ?_ | refine inb_r ?_ | refine js_r ?_)
        refine ret_of (t := 8) rfl hM1302 rfl ?_
        first | exact ⟨ret_int HE, HB1257.out⟩ | exact ⟨ret_int HE.out, HB1257.out⟩
end Go.Proofs.Ytebaojcfmkobjaa
