/-
  Contracts of the functions on two places: which is ahead, and where one is moved to: what each call answers, for every input.
-/
import Derived.Test.YtkjdhjkmnkcgoaaPlb
namespace Go.Proofs.Ytkjdhjkmnkcgoaa
open Go.RowKit


set_option maxRecDepth 100000 in
set_option maxHeartbeats 400000 in
theorem pla_Before_yes {x y u v : Nat} {r a s b : Int} (w : World) (h1 : partsIs x y r a) (h2 : partsIs u v s b) :
    Calls Try.prog 42 #[.complex .f64 x y, .complex .f64 u v] w fun e w' => e = .returned (.tuple #[.bool (befB r a s b), .int .i64 0]) ∧ w = w' := by
  have H1 := hide h1
  have H2 := hide h2
  clear h1 h2
  go_enter Try.func42, Try.ntmps42
  go_wp2_with fail
  go_step3
  go_wp2_with fail
  refine (pla_Parts_yes _ H1.out).mono ?_
  rintro e w' ⟨rfl, rfl⟩
  go_wp2_with fail
  refine (pla_Parts_yes _ H2.out).mono ?_
  rintro e w' ⟨rfl, rfl⟩
  go_wp2_with fail
  refine (pla_Less _ H1.out H2.out).mono ?_
  rintro e w' ⟨rfl, rfl⟩
  go_wp2_with fail
  try rw [Exit.noGoto_ret]
  go_ret2
  exact ⟨rfl, rfl⟩

set_option maxRecDepth 100000 in
set_option maxHeartbeats 400000 in
theorem pla_Before_no {x y u v : Nat} (w : World) (h : partsNot x y ∨ partsNot u v) :
    Calls Try.prog 42 #[.complex .f64 x y, .complex .f64 u v] w fun e w' => e = .returned (.tuple #[.bool false, .int .i64 1]) ∧ w = w' := by
  have H := hide h
  clear h
  go_enter Try.func42, Try.ntmps42
  go_wp2_with fail
  refine scope_loop 0 (fun a w' => ∃ (u0 u1 u2 u3 u4 u5 u6 u7 u9 u10 u11 u12 u13 u14 u15 u16 u17 u18 u19 u20 u21 u22 u23 u24 u25 u26 u27 u28 : Value), a = { tmps := #[u0, u1, u2, u3, u4, u5, u6, u7, .int .i64 1, u9, u10, u11, u12, u13, u14, u15, u16, u17, u18, u19, u20, u21, u22, u23, u24, u25, u26, u27, u28], defers := [] } ∧ w = w') (fun _ _ => 0) rfl ?_ ?_
  · rintro a w' ⟨u0, u1, u2, u3, u4, u5, u6, u7, u9, u10, u11, u12, u13, u14, u15, u16, u17, u18, u19, u20, u21, u22, u23, u24, u25, u26, u27, u28, rfl, rfl⟩
    go_wp2_with fail
    try rw [Exit.jump_ret]
    go_ret2
    exact ⟨rfl, rfl⟩
  · intro _
    go_wp2_with fail
    rcases parts_em x y with ⟨r, a, h1⟩ | h1
    · rcases parts_em u v with ⟨s, b, h2⟩ | h2
      · rcases H.out with h | h
        · rcases h with h | h
          · exact (h _ h1.1).elim
          · exact (h _ h1.2).elim
        · rcases h with h | h
          · exact (h _ h2.1).elim
          · exact (h _ h2.2).elim
      · have H1 := hide h1
        have H2 := hide h2
        clear h1 h2
        refine (pla_Parts_yes _ H1.out).mono ?_
        rintro e w' ⟨rfl, rfl⟩
        go_wp2_with fail
        refine (pla_Parts_no _ H2.out).mono ?_
        rintro e w' ⟨rfl, rfl⟩
        go_wp2_with fail
        go_step3
        refine Exit.then_goto (Exit.jump_goto ⟨_, _, _, _, _, _, _, _, _, _, _, _, _, _, _, _, _, _, _, _, _, _, _, _, _, _, _, _, rfl, rfl⟩)
    · have H1 := hide h1
      clear h1
      refine (pla_Parts_no _ H1.out).mono ?_
      rintro e w' ⟨rfl, rfl⟩
      go_wp2_with fail
      go_step3
      refine Exit.then_goto (Exit.jump_goto ⟨_, _, _, _, _, _, _, _, _, _, _, _, _, _, _, _, _, _, _, _, _, _, _, _, _, _, _, _, rfl, rfl⟩)

/-- What a place is moved by. -/
def stepIs (x y : Nat) (r a : Int) : Prop := wholeIs x (-1099511627776) 1099511627776 r ∧ wholeIs y (-1099511627776) 1099511627776 a
def stepNot (x y : Nat) : Prop := wholeNot x (-1099511627776) 1099511627776 ∨ wholeNot y (-1099511627776) 1099511627776
theorem step_em (x y : Nat) : (∃ r a, stepIs x y r a) ∨ stepNot x y := by
  rcases whole_em x (-1099511627776) 1099511627776 with ⟨r, hr⟩ | h
  · rcases whole_em y (-1099511627776) 1099511627776 with ⟨a, ha⟩ | h
    · exact .inl ⟨r, a, hr, ha⟩
    · exact .inr (.inr h)
  · exact .inr (.inl h)

/-- Where a move leads to: the sums stand for the sums. -/
def sumIs (x y u v : Nat) (re im : Nat) (r a : Int) : Prop := cSumBits .add .f64 x y u v = some (re, im) ∧ val re = some (r * scale) ∧ val im = some (a * scale)
theorem sum_of {x y u v : Nat} {r a s b : Int} (h1 : partsIs x y r a) (h2 : stepIs u v s b) : ∃ re im, sumIs x y u v re im (r + s) (a + b) := by
  obtain ⟨⟨v1, l1, l2⟩, ⟨v2, l3, l4⟩⟩ := h1
  obtain ⟨⟨v3, l5, l6⟩, ⟨v4, l7, l8⟩⟩ := h2
  obtain ⟨re, e1, f1⟩ := add_val v1 v3 (by omega) (by omega)
  obtain ⟨im, e2, f2⟩ := add_val v2 v4 (by omega) (by omega)
  refine ⟨re, im, ?_, f1, f2⟩
  unfold cSumBits
  have e1' : floatBits .add .f64 x u = some re := e1
  have e2' : floatBits .add .f64 y v = some im := e2
  rw [e1', e2']
  rfl
theorem sum_parts {x y u v re im : Nat} {r a : Int} (h : sumIs x y u v re im r a) (hp : plaIs r a = true) : partsIs re im r a := by
  have := plaIs_true hp
  exact ⟨⟨h.2.1, by omega, by omega⟩, ⟨h.2.2, by omega, by omega⟩⟩
theorem scale_inj {a b : Int} (h : a * (scale : Int) = b * scale) : a = b := Int.eq_of_mul_eq_mul_right (by have : (0 : Int) < scale := Int.natCast_pos.2 scale_pos; omega) h
theorem sum_not {x y u v re im : Nat} {r a : Int} (h : sumIs x y u v re im r a) (hp : plaIs r a = false) : partsNot re im := by
  rcases parts_em re im with ⟨r', a', h1⟩ | h1
  · exfalso
    have e1 := h1.1.1.symm.trans h.2.1
    have e2 := h1.2.1.symm.trans h.2.2
    injection e1 with e1
    injection e2 with e2
    have e1 := scale_inj e1
    have e2 := scale_inj e2
    subst e1; subst e2
    have : plaIs r' a' = true := plaIs_mk ⟨h1.1.2.1, h1.1.2.2, h1.2.2.1, h1.2.2.2⟩
    rw [this] at hp
    cases hp
  · exact h1

set_option maxRecDepth 100000 in
set_option maxHeartbeats 400000 in
theorem pla_Move_yes {x y u v re im : Nat} {r a s b : Int} (w : World) (h1 : partsIs x y r a) (h2 : stepIs u v s b) (h3 : sumIs x y u v re im (r + s) (a + b)) (h4 : plaIs (r + s) (a + b) = true) :
    Calls Try.prog 44 #[.complex .f64 x y, .complex .f64 u v] w fun e w' => e = .returned (.tuple #[.complex .f64 re im, .int .i64 0]) ∧ w = w' := by
  have hadd := fun W : World => run_complex_sum (P := Try.prog) W .add (.inl rfl) 23 .f64 x y u v re im h3.1
  have H4 := hide (sum_parts h3 h4)
  have H1 := hide h1
  have H2 := hide h2.1
  have H3 := hide h2.2
  clear h1 h2 h3 h4
  go_enter Try.func44, Try.ntmps44
  go_wp2_with fail
  go_step3
  go_wp2_with fail
  refine (pla_Parts_yes _ H1.out).mono ?_
  rintro e w' ⟨rfl, rfl⟩
  go_wp2_with fail
  refine (pla_whole_yes _ H2.out (by decide) (by decide)).mono ?_
  rintro e w' ⟨rfl, rfl⟩
  go_wp2_with fail
  refine (pla_whole_yes _ H3.out (by decide) (by decide)).mono ?_
  rintro e w' ⟨rfl, rfl⟩
  go_wp2_with fail
  refine (pla_Parts_yes _ H4.out).mono ?_
  rintro e w' ⟨rfl, rfl⟩
  go_wp2_with fail
  try rw [Exit.noGoto_ret]
  go_ret2
  exact ⟨rfl, rfl⟩

set_option maxRecDepth 100000 in
set_option maxHeartbeats 400000 in
theorem pla_Move_no {x y u v re im : Nat} {r a s b : Int} (w : World) (h1 : partsIs x y r a) (h2 : stepIs u v s b) (h3 : sumIs x y u v re im (r + s) (a + b)) (h4 : plaIs (r + s) (a + b) = false) :
    Calls Try.prog 44 #[.complex .f64 x y, .complex .f64 u v] w fun e w' => e = .returned (.tuple #[.complex .f64 0 0, .int .i64 1]) ∧ w = w' := by
  have hadd := fun W : World => run_complex_sum (P := Try.prog) W .add (.inl rfl) 23 .f64 x y u v re im h3.1
  have H4 := hide (sum_not h3 h4)
  have H1 := hide h1
  have H2 := hide h2.1
  have H3 := hide h2.2
  clear h1 h2 h3 h4
  go_enter Try.func44, Try.ntmps44
  go_wp2_with fail
  refine scope_loop 0 (fun a w' => ∃ (u0 u1 u2 u3 u4 u5 u6 u7 u8 u9 u10 u11 u12 u13 u14 u15 u16 u17 u18 u19 u20 u21 u22 u23 u24 u25 u26 u27 u28 u29 u30 u31 u32 u33 u34 u35 u36 u37 u38 u39 u40 u41 u42 u43 u44 u45 u46 u47 u48 u49 u50 u51 u52 u53 : Value), a = { tmps := #[u0, u1, u2, u3, u4, u5, u6, u7, u8, u9, u10, u11, u12, u13, u14, u15, u16, u17, u18, u19, u20, u21, u22, u23, u24, u25, u26, u27, u28, u29, u30, u31, u32, u33, u34, u35, u36, u37, u38, u39, u40, u41, u42, u43, u44, u45, u46, u47, u48, u49, u50, u51, u52, u53], defers := [] } ∧ w = w') (fun _ _ => 0) rfl ?_ ?_
  · rintro a w' ⟨u0, u1, u2, u3, u4, u5, u6, u7, u8, u9, u10, u11, u12, u13, u14, u15, u16, u17, u18, u19, u20, u21, u22, u23, u24, u25, u26, u27, u28, u29, u30, u31, u32, u33, u34, u35, u36, u37, u38, u39, u40, u41, u42, u43, u44, u45, u46, u47, u48, u49, u50, u51, u52, u53, rfl, rfl⟩
    go_wp2_with fail
    try rw [Exit.jump_ret]
    go_ret2
    exact ⟨rfl, rfl⟩
  intro _
  go_wp2_with fail
  refine (pla_Parts_yes _ H1.out).mono ?_
  rintro e w' ⟨rfl, rfl⟩
  go_wp2_with fail
  refine (pla_whole_yes _ H2.out (by decide) (by decide)).mono ?_
  rintro e w' ⟨rfl, rfl⟩
  go_wp2_with fail
  refine (pla_whole_yes _ H3.out (by decide) (by decide)).mono ?_
  rintro e w' ⟨rfl, rfl⟩
  go_wp2_with fail
  refine (pla_Parts_no _ H4.out).mono ?_
  rintro e w' ⟨rfl, rfl⟩
  go_wp2_with fail
  go_step3
  refine Exit.then_goto (Exit.jump_goto ⟨_, _, _, _, _, _, _, _, _, _, _, _, _, _, _, _, _, _, _, _, _, _, _, _, _, _, _, _, _, _, _, _, _, _, _, _, _, _, _, _, _, _, _, _, _, _, _, _, _, _, _, _, _, _, rfl, rfl⟩)

set_option maxRecDepth 100000 in
set_option maxHeartbeats 1000000 in
theorem pla_Move_none {x y u v : Nat} (w : World) (h : partsNot x y ∨ stepNot u v) :
    Calls Try.prog 44 #[.complex .f64 x y, .complex .f64 u v] w fun e w' => e = .returned (.tuple #[.complex .f64 0 0, .int .i64 1]) ∧ w = w' := by
  have H := hide h
  have E1 := hide (whole_em u (-1099511627776) 1099511627776)
  have E2 := hide (whole_em v (-1099511627776) 1099511627776)
  have E0 := hide (parts_em x y)
  clear h
  go_enter Try.func44, Try.ntmps44
  go_wp2_with fail
  refine scope_loop 0 (fun a w' => ∃ (u0 u1 u2 u3 u4 u5 u6 u7 u8 u9 u10 u11 u12 u13 u14 u15 u16 u17 u18 u19 u20 u21 u22 u23 u24 u25 u26 u27 u28 u29 u30 u31 u32 u33 u34 u35 u36 u37 u38 u39 u40 u41 u42 u43 u44 u45 u46 u47 u48 u49 u50 u51 u52 u53 : Value), a = { tmps := #[u0, u1, u2, u3, u4, u5, u6, u7, u8, u9, u10, u11, u12, u13, u14, u15, u16, u17, u18, u19, u20, u21, u22, u23, u24, u25, u26, u27, u28, u29, u30, u31, u32, u33, u34, u35, u36, u37, u38, u39, u40, u41, u42, u43, u44, u45, u46, u47, u48, u49, u50, u51, u52, u53], defers := [] } ∧ w = w') (fun _ _ => 0) rfl ?_ ?_
  · rintro a w' ⟨u0, u1, u2, u3, u4, u5, u6, u7, u8, u9, u10, u11, u12, u13, u14, u15, u16, u17, u18, u19, u20, u21, u22, u23, u24, u25, u26, u27, u28, u29, u30, u31, u32, u33, u34, u35, u36, u37, u38, u39, u40, u41, u42, u43, u44, u45, u46, u47, u48, u49, u50, u51, u52, u53, rfl, rfl⟩
    go_wp2_with fail
    try rw [Exit.jump_ret]
    go_ret2
    exact ⟨rfl, rfl⟩
  intro _
  go_wp2_with fail
  rcases E0.out with ⟨r, a, h0⟩ | h0
  all_goals rcases E1.out with ⟨s, h1⟩ | h1
  all_goals rcases E2.out with ⟨b, h2⟩ | h2
  all_goals
    have H0 := hide h0
    have H1 := hide h1
    have H2 := hide h2
    clear h0 h1 h2
  · exfalso
    rcases H.out with h | h
    · rcases h with h | h
      · exact h _ H0.out.1
      · exact h _ H0.out.2
    · rcases h with h | h
      · exact h _ H1.out
      · exact h _ H2.out
  · refine (pla_Parts_yes _ H0.out).mono ?_
    rintro e w' ⟨rfl, rfl⟩
    go_wp2_with fail
    refine (pla_whole_yes _ H1.out (by decide) (by decide)).mono ?_
    rintro e w' ⟨rfl, rfl⟩
    go_wp2_with fail
    refine (pla_whole_no _ H2.out (by decide) (by decide) (by decide)).mono ?_
    rintro e w' ⟨⟨z, rfl⟩, rfl⟩
    go_wp2_with fail
    go_step3
    refine Exit.then_goto (Exit.jump_goto ⟨_, _, _, _, _, _, _, _, _, _, _, _, _, _, _, _, _, _, _, _, _, _, _, _, _, _, _, _, _, _, _, _, _, _, _, _, _, _, _, _, _, _, _, _, _, _, _, _, _, _, _, _, _, _, rfl, rfl⟩)
  · refine (pla_Parts_yes _ H0.out).mono ?_
    rintro e w' ⟨rfl, rfl⟩
    go_wp2_with fail
    refine (pla_whole_no _ H1.out (by decide) (by decide) (by decide)).mono ?_
    rintro e w' ⟨⟨z, rfl⟩, rfl⟩
    go_wp2_with fail
    refine (pla_whole_yes _ H2.out (by decide) (by decide)).mono ?_
    rintro e w' ⟨rfl, rfl⟩
    go_wp2_with fail
    go_step3
    refine Exit.then_goto (Exit.jump_goto ⟨_, _, _, _, _, _, _, _, _, _, _, _, _, _, _, _, _, _, _, _, _, _, _, _, _, _, _, _, _, _, _, _, _, _, _, _, _, _, _, _, _, _, _, _, _, _, _, _, _, _, _, _, _, _, rfl, rfl⟩)
  · refine (pla_Parts_yes _ H0.out).mono ?_
    rintro e w' ⟨rfl, rfl⟩
    go_wp2_with fail
    refine (pla_whole_no _ H1.out (by decide) (by decide) (by decide)).mono ?_
    rintro e w' ⟨⟨z, rfl⟩, rfl⟩
    go_wp2_with fail
    refine (pla_whole_no _ H2.out (by decide) (by decide) (by decide)).mono ?_
    rintro e w' ⟨⟨z, rfl⟩, rfl⟩
    go_wp2_with fail
    go_step3
    refine Exit.then_goto (Exit.jump_goto ⟨_, _, _, _, _, _, _, _, _, _, _, _, _, _, _, _, _, _, _, _, _, _, _, _, _, _, _, _, _, _, _, _, _, _, _, _, _, _, _, _, _, _, _, _, _, _, _, _, _, _, _, _, _, _, rfl, rfl⟩)
  · refine (pla_Parts_no _ H0.out).mono ?_
    rintro e w' ⟨rfl, rfl⟩
    go_wp2_with fail
    refine (pla_whole_yes _ H1.out (by decide) (by decide)).mono ?_
    rintro e w' ⟨rfl, rfl⟩
    go_wp2_with fail
    refine (pla_whole_yes _ H2.out (by decide) (by decide)).mono ?_
    rintro e w' ⟨rfl, rfl⟩
    go_wp2_with fail
    go_step3
    refine Exit.then_goto (Exit.jump_goto ⟨_, _, _, _, _, _, _, _, _, _, _, _, _, _, _, _, _, _, _, _, _, _, _, _, _, _, _, _, _, _, _, _, _, _, _, _, _, _, _, _, _, _, _, _, _, _, _, _, _, _, _, _, _, _, rfl, rfl⟩)
  · refine (pla_Parts_no _ H0.out).mono ?_
    rintro e w' ⟨rfl, rfl⟩
    go_wp2_with fail
    refine (pla_whole_yes _ H1.out (by decide) (by decide)).mono ?_
    rintro e w' ⟨rfl, rfl⟩
    go_wp2_with fail
    refine (pla_whole_no _ H2.out (by decide) (by decide) (by decide)).mono ?_
    rintro e w' ⟨⟨z, rfl⟩, rfl⟩
    go_wp2_with fail
    go_step3
    refine Exit.then_goto (Exit.jump_goto ⟨_, _, _, _, _, _, _, _, _, _, _, _, _, _, _, _, _, _, _, _, _, _, _, _, _, _, _, _, _, _, _, _, _, _, _, _, _, _, _, _, _, _, _, _, _, _, _, _, _, _, _, _, _, _, rfl, rfl⟩)
  · refine (pla_Parts_no _ H0.out).mono ?_
    rintro e w' ⟨rfl, rfl⟩
    go_wp2_with fail
    refine (pla_whole_no _ H1.out (by decide) (by decide) (by decide)).mono ?_
    rintro e w' ⟨⟨z, rfl⟩, rfl⟩
    go_wp2_with fail
    refine (pla_whole_yes _ H2.out (by decide) (by decide)).mono ?_
    rintro e w' ⟨rfl, rfl⟩
    go_wp2_with fail
    go_step3
    refine Exit.then_goto (Exit.jump_goto ⟨_, _, _, _, _, _, _, _, _, _, _, _, _, _, _, _, _, _, _, _, _, _, _, _, _, _, _, _, _, _, _, _, _, _, _, _, _, _, _, _, _, _, _, _, _, _, _, _, _, _, _, _, _, _, rfl, rfl⟩)
  · refine (pla_Parts_no _ H0.out).mono ?_
    rintro e w' ⟨rfl, rfl⟩
    go_wp2_with fail
    refine (pla_whole_no _ H1.out (by decide) (by decide) (by decide)).mono ?_
    rintro e w' ⟨⟨z, rfl⟩, rfl⟩
    go_wp2_with fail
    refine (pla_whole_no _ H2.out (by decide) (by decide) (by decide)).mono ?_
    rintro e w' ⟨⟨z, rfl⟩, rfl⟩
    go_wp2_with fail
    go_step3
    refine Exit.then_goto (Exit.jump_goto ⟨_, _, _, _, _, _, _, _, _, _, _, _, _, _, _, _, _, _, _, _, _, _, _, _, _, _, _, _, _, _, _, _, _, _, _, _, _, _, _, _, _, _, _, _, _, _, _, _, _, _, _, _, _, _, rfl, rfl⟩)

set_option maxRecDepth 100000 in
set_option maxHeartbeats 400000 in
theorem ref1_Move {x y u v : Nat} {r a s b : Int} (w : World) (h1 : partsIs x y r a) (h2 : stepIs u v s b) (ok : Bool) (h4 : plaIs (r + s) (a + b) = ok) :
    Calls Try.prog 45 #[.complex .f64 x y, .complex .f64 u v] w fun e w' => e = .returned (.tuple #[if ok then .complex .f64 (floatOfInt .f64 (r + s)) (floatOfInt .f64 (a + b)) else .complex .f64 0 0, .bool ok]) ∧ w = w' := by
  have H1 := hide h1
  have H2 := hide h2.1
  have H3 := hide h2.2
  obtain ⟨⟨_, l1, l2⟩, ⟨_, l3, l4⟩⟩ := h1
  obtain ⟨⟨_, l5, l6⟩, ⟨_, l7, l8⟩⟩ := h2
  cases ok
  all_goals
    go_enter Try.func45, Try.ntmps45
    go_wp2_with fail
    refine (ref1_Parts_yes _ H1.out).mono ?_
    rintro e w' ⟨rfl, rfl⟩
    go_wp2_with fail
    refine (ref1_whole_yes _ H2.out (by decide) (by decide)).mono ?_
    rintro e w' ⟨rfl, rfl⟩
    go_wp2_with fail
    refine (ref1_whole_yes _ H3.out (by decide) (by decide)).mono ?_
    rintro e w' ⟨rfl, rfl⟩
    go_wp2_with fail
    refine (ref1_May _ _ _).mono ?_
    rintro e w' ⟨rfl, rfl⟩
    go_wp2_with (go_at_call 18; refine (ref1_At _ _ _).mono ?_; rintro e w' ⟨rfl, rfl⟩)
    go_ret2
    exact ⟨rfl, rfl⟩

set_option maxRecDepth 100000 in
set_option maxHeartbeats 1000000 in
theorem ref1_Move_none {x y u v : Nat} (w : World) (h : partsNot x y ∨ stepNot u v) :
    Calls Try.prog 45 #[.complex .f64 x y, .complex .f64 u v] w fun e w' => e = .returned (.tuple #[.complex .f64 0 0, .bool false]) ∧ w = w' := by
  have H := hide h
  have E1 := hide (whole_em u (-1099511627776) 1099511627776)
  have E2 := hide (whole_em v (-1099511627776) 1099511627776)
  have E0 := hide (parts_em x y)
  clear h
  go_enter Try.func45, Try.ntmps45
  go_wp2_with fail
  rcases E0.out with ⟨r, a, h0⟩ | h0
  all_goals rcases E1.out with ⟨s, h1⟩ | h1
  all_goals rcases E2.out with ⟨b, h2⟩ | h2
  all_goals
    have H0 := hide h0
    have H1 := hide h1
    have H2 := hide h2
    clear h0 h1 h2
  · exfalso
    rcases H.out with h | h
    · rcases h with h | h
      · exact h _ H0.out.1
      · exact h _ H0.out.2
    · rcases h with h | h
      · exact h _ H1.out
      · exact h _ H2.out
  · refine (ref1_Parts_yes _ H0.out).mono ?_
    rintro e w' ⟨rfl, rfl⟩
    go_wp2_with fail
    refine (ref1_whole_yes _ H1.out (by decide) (by decide)).mono ?_
    rintro e w' ⟨rfl, rfl⟩
    go_wp2_with fail
    refine (ref1_whole_no _ H2.out (by decide) (by decide) (by decide)).mono ?_
    rintro e w' ⟨⟨z, rfl⟩, rfl⟩
    go_wp2_with fail
    go_ret2
    exact ⟨rfl, rfl⟩
  · refine (ref1_Parts_yes _ H0.out).mono ?_
    rintro e w' ⟨rfl, rfl⟩
    go_wp2_with fail
    refine (ref1_whole_no _ H1.out (by decide) (by decide) (by decide)).mono ?_
    rintro e w' ⟨⟨z, rfl⟩, rfl⟩
    go_wp2_with fail
    refine (ref1_whole_yes _ H2.out (by decide) (by decide)).mono ?_
    rintro e w' ⟨rfl, rfl⟩
    go_wp2_with fail
    go_ret2
    exact ⟨rfl, rfl⟩
  · refine (ref1_Parts_yes _ H0.out).mono ?_
    rintro e w' ⟨rfl, rfl⟩
    go_wp2_with fail
    refine (ref1_whole_no _ H1.out (by decide) (by decide) (by decide)).mono ?_
    rintro e w' ⟨⟨z, rfl⟩, rfl⟩
    go_wp2_with fail
    refine (ref1_whole_no _ H2.out (by decide) (by decide) (by decide)).mono ?_
    rintro e w' ⟨⟨z, rfl⟩, rfl⟩
    go_wp2_with fail
    go_ret2
    exact ⟨rfl, rfl⟩
  · refine (ref1_Parts_no _ H0.out).mono ?_
    rintro e w' ⟨rfl, rfl⟩
    go_wp2_with fail
    refine (ref1_whole_yes _ H1.out (by decide) (by decide)).mono ?_
    rintro e w' ⟨rfl, rfl⟩
    go_wp2_with fail
    refine (ref1_whole_yes _ H2.out (by decide) (by decide)).mono ?_
    rintro e w' ⟨rfl, rfl⟩
    go_wp2_with fail
    go_ret2
    exact ⟨rfl, rfl⟩
  · refine (ref1_Parts_no _ H0.out).mono ?_
    rintro e w' ⟨rfl, rfl⟩
    go_wp2_with fail
    refine (ref1_whole_yes _ H1.out (by decide) (by decide)).mono ?_
    rintro e w' ⟨rfl, rfl⟩
    go_wp2_with fail
    refine (ref1_whole_no _ H2.out (by decide) (by decide) (by decide)).mono ?_
    rintro e w' ⟨⟨z, rfl⟩, rfl⟩
    go_wp2_with fail
    go_ret2
    exact ⟨rfl, rfl⟩
  · refine (ref1_Parts_no _ H0.out).mono ?_
    rintro e w' ⟨rfl, rfl⟩
    go_wp2_with fail
    refine (ref1_whole_no _ H1.out (by decide) (by decide) (by decide)).mono ?_
    rintro e w' ⟨⟨z, rfl⟩, rfl⟩
    go_wp2_with fail
    refine (ref1_whole_yes _ H2.out (by decide) (by decide)).mono ?_
    rintro e w' ⟨rfl, rfl⟩
    go_wp2_with fail
    go_ret2
    exact ⟨rfl, rfl⟩
  · refine (ref1_Parts_no _ H0.out).mono ?_
    rintro e w' ⟨rfl, rfl⟩
    go_wp2_with fail
    refine (ref1_whole_no _ H1.out (by decide) (by decide) (by decide)).mono ?_
    rintro e w' ⟨⟨z, rfl⟩, rfl⟩
    go_wp2_with fail
    refine (ref1_whole_no _ H2.out (by decide) (by decide) (by decide)).mono ?_
    rintro e w' ⟨⟨z, rfl⟩, rfl⟩
    go_wp2_with fail
    go_ret2
    exact ⟨rfl, rfl⟩
end Go.Proofs.Ytkjdhjkmnkcgoaa
