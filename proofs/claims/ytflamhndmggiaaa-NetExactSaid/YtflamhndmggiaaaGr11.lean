/-
  Texts joined: words and contracts that later texts use; lemmas alone, no conditions of a statement.
-/
import Derived.Test.YtflamhndmggiaaaGr10
import Derived.Test.YtflamhndmggiaaaGr07
set_option linter.unusedVariables false
set_option linter.unusedSimpArgs false
/-
  Regions that draw their order, whose operations all only add to the world (calls, new blocks, reads), and that end in operations which wait for all of these: whatever the order, each value is as told, and new blocks are apart. Over any program.
-/
namespace Go.Proofs.Ytflamhndmggiaaa
open Go.RowKit

def dOf (ops : Array Oper) (i : Nat) : Nat := ((ops[i]?).bind (·.dst)).getD 0
def Lst (listed : Array Bool) (i : Nat) : Prop := listed.getD i false = true
structure MonoR (ops : Array Oper) (K N n : Nat) (M0 : List (Nat × Value)) : Prop where
  size : ops.size = N
  kn : K ≤ N
  op : ∀ i, i < K → ∃ o, ops[i]? = some o ∧ dOf ops i < n ∧ ∀ e ∈ o.after, Region.binds .any e = true → e.on < i
  m0 : ∀ i, i < K → lk M0 (dOf ops i) = none
  inj : ∀ i j, i < K → j < K → i ≠ j → dOf ops i ≠ dOf ops j
  up : ∀ z i, K ≤ z → z < N → i < K → anc ops 40 z i = true
def monoB (ops : Array Oper) (K N n : Nat) (M0 : List (Nat × Value)) : Bool :=
  Nat.beq ops.size N && (Nat.ble K N && ((List.range K).all (fun i => ((ops[i]?).map fun o => Nat.blt (dOf ops i) n && o.after.all fun e => !Region.binds .any e || Nat.blt e.on i).getD false) &&
    ((List.range K).all (fun i => (lk M0 (dOf ops i)).isNone) && ((List.range K).all (fun i => (List.range K).all fun j => Nat.beq i j || !Nat.beq (dOf ops i) (dOf ops j)) && (List.range N).all (fun z => Nat.blt z K || (List.range K).all fun i => anc ops 40 z i)))))
theorem monoR_of {ops : Array Oper} {K N n : Nat} {M0 : List (Nat × Value)} (h : monoB ops K N n M0 = true) : MonoR ops K N n M0 := by
  unfold monoB at h
  simp only [Bool.and_eq_true, List.all_eq_true, List.mem_range, Bool.or_eq_true] at h
  obtain ⟨h1, h2, h3, h4, h5, h6⟩ := h
  refine ⟨Nat.eq_of_beq_eq_true h1, Nat.le_of_ble_eq_true h2, fun i hi => ?_, fun i hi => ?_, fun i j hi hj hne e => ?_, fun z i hz hzn hi => ?_⟩
  · have h := h3 i hi
    cases ho : ops[i]? with
    | none => rw [ho] at h; simp at h
    | some o =>
      rw [ho] at h
      simp only [Option.map_some, Option.getD_some, Bool.and_eq_true] at h
      refine ⟨o, rfl, Nat.le_of_ble_eq_true h.1, fun e he hb => ?_⟩
      have h7 := Array.all_eq_true_iff_forall_mem.1 h.2 e he
      rw [hb] at h7
      simp only [Bool.not_true, Bool.false_or] at h7
      exact Nat.le_of_ble_eq_true h7
  · simpa using h4 i hi
  · have h := h5 i hi j hj
    rcases h with h | h
    · exact hne (Nat.eq_of_beq_eq_true h)
    · rw [e] at h; simp at h
  · rcases h6 z hzn with h | h
    · have := Nat.le_of_ble_eq_true h; omega
    · exact h i hi
theorem lk_eq {t : Nat} {v : Value} {M : List (Nat × Value)} : lk ((t, v) :: M) t = some v := by rw [lk]; simp
theorem lk_ne {t s : Nat} {v : Value} {M : List (Nat × Value)} (h : t ≠ s) : lk ((t, v) :: M) s = lk M s := by
  rw [lk]
  have e : t.beq s = false := by
    cases hb : t.beq s with
    | false => rfl
    | true => exact absurd (Nat.eq_of_beq_eq_true hb) h
  rw [e]; rfl
theorem below_then_ {B : Nat} {w w1 w2 : World} (h : Below B w w1) (h' : Below w1.heap.size w1 w2) (hB : B ≤ w.heap.size) : Below B w w2 := h.trans (h'.mono (Nat.le_trans hB h.size))
theorem least_of {p : Nat → Prop} (hd : ∀ k, p k ∨ ¬ p k) : ∀ n, p n → ∃ m, p m ∧ ∀ k, k < m → ¬ p k := by
  intro n
  induction n using Nat.strongRecOn with
  | _ n ih =>
    intro h
    by_cases hk : ∃ k, k < n ∧ p k
    · obtain ⟨k, hk, hp⟩ := hk
      exact ih k hk hp
    · exact ⟨n, h, fun k hkn hp => hk ⟨k, hkn, hp⟩⟩
theorem Frm.keep_put {a : Act} {n t u : Nat} {v x : Value} {M : List (Nat × Value)} (h : Frm a n ((t, v) :: M)) (hu : u < n) (hne : t ≠ u) (hM : lk M u = none) : Frm (a.put (some u) x) n ((t, v) :: M) := by
  have h2 := h.put hu x
  refine ⟨h2.1, h2.2.1, fun s y hl => h2.2.2 s y ?_⟩
  have hsu : s ≠ u := fun e => by
    subst e
    rw [lk_ne hne, hM] at hl; cases hl
  show lk ((u, x) :: (t, v) :: M) s = some y
  rw [lk_ne (Ne.symm hsu)]
  exact hl
theorem Frm.keep_put0 {a : Act} {n u : Nat} {x : Value} {M : List (Nat × Value)} (h : Frm a n M) (hu : u < n) (hM : lk M u = none) : Frm (a.put (some u) x) n M := by
  have h2 := h.put hu x
  refine ⟨h2.1, h2.2.1, fun s y hl => h2.2.2 s y ?_⟩
  have hsu : s ≠ u := fun e => by
    subst e
    rw [hM] at hl; cases hl
  show lk ((u, x) :: M) s = some y
  rw [lk_ne (Ne.symm hsu)]
  exact hl
theorem Frm.more {a : Act} {n t : Nat} {v : Value} {M M' : List (Nat × Value)} (h : Frm a n M) (h' : Frm a n ((t, v) :: M')) : Frm a n ((t, v) :: M) := by
  refine ⟨h.1, h.2.1, fun s y hl => ?_⟩
  by_cases e : t = s
  · subst e
    rw [lk_eq] at hl
    exact h'.2.2 t y (by rw [lk_eq]; exact hl)
  · rw [lk_ne e] at hl
    exact h.2.2 s y hl
section
variable {P : Program} {ops : Array Oper} {Q : Exit → Act → World → Prop} {K N n : Nat} {M0 : List (Nat × Value)} {W : World} {T : Nat → Value → World → Prop} {bo : Nat → Value → Option Nat}
structure MonoJ (ops : Array Oper) (K N n : Nat) (M0 : List (Nat × Value)) (W : World) (T : Nat → Value → World → Prop) (bo : Nat → Value → Option Nat) (L : Nat → Prop) (a : Act) (w : World) (f : Nat → Value) : Prop where
  below : Below W.heap.size W w
  fr : Frm a n M0
  val : ∀ i, i < K → L i → Frm a n ((dOf ops i, f i) :: M0) ∧ T i (f i) w
  ap : ∀ i j, i < K → j < K → i ≠ j → L i → L j → ∀ b, bo i (f i) = some b → bo j (f j) ≠ some b
theorem mono_step (hR : MonoR ops K N n M0) (hmono : ∀ i v w w', T i v w → Below w.heap.size w w' → T i v w') (hlt : ∀ i v w, T i v w → ∀ b, bo i v = some b → b < w.heap.size) {L L' : Nat → Prop} {a : Act} {w w' : World} {f : Nat → Value} {i : Nat} {v : Value} (hi : i < K)
    (h : MonoJ ops K N n M0 W T bo L a w f) (hL : ∀ j, L' j → L j ∨ j = i) (hT : T i v w') (hb : Below w.heap.size w w') (hnew : ∀ b, bo i v = some b → w.heap.size ≤ b) :
    MonoJ ops K N n M0 W T bo L' (a.put (some (dOf ops i)) v) w' (fun j => if j = i then v else f j) := by
  obtain ⟨o, ho, hd, _⟩ := hR.op i hi
  have hm := hR.m0 i hi
  refine ⟨below_then_ h.below hb (Nat.le_refl _), h.fr.keep_put0 hd hm, fun j hj hl => ?_, fun j k hj hk hne hlj hlk b hbj hbk => ?_⟩
  · by_cases hji : j = i
    · subst hji
      rw [if_pos rfl]
      exact ⟨h.fr.put hd v, hT⟩
    · rw [if_neg hji]
      obtain ⟨h1, h2⟩ := h.val j hj ((hL j hl).resolve_right hji)
      exact ⟨h1.keep_put hd (hR.inj j i hj hi hji) hm, hmono _ _ _ _ h2 hb⟩
  · by_cases hji : j = i
    · subst hji
      rw [if_pos rfl] at hbj
      rw [if_neg (fun e => hne e.symm)] at hbk
      have h1 := hnew b hbj
      have h2 := hlt _ _ _ (h.val k hk ((hL k hlk).resolve_right (fun e => hne e.symm))).2 b hbk
      omega
    · rw [if_neg hji] at hbj
      by_cases hki : k = i
      · subst hki
        rw [if_pos rfl] at hbk
        have h1 := hnew b hbk
        have h2 := hlt _ _ _ (h.val j hj ((hL j hlj).resolve_right hji)).2 b hbj
        omega
      · rw [if_neg hki] at hbk
        exact h.ap j k hj hk hne ((hL j hlj).resolve_right hji) ((hL k hlk).resolve_right hki) b hbj hbk
def allB (K N : Nat) : Array Bool := Array.ofFn (n := N) fun i => decide (i.val < K)
theorem mono_go (hR : MonoR ops K N n M0) (hmono : ∀ i v w w', T i v w → Below w.heap.size w w' → T i v w') (hlt : ∀ i v w, T i v w → ∀ b, bo i v = some b → b < w.heap.size)
    (H : ∀ i o, i < K → ops[i]? = some o → ∀ (a : Act) (w : World) (f : Nat → Value), Below W.heap.size W w → Frm a n M0 → (∀ j, (∃ e ∈ o.after, Region.binds .any e = true ∧ e.on = j) → Frm a n ((dOf ops j, f j) :: M0) ∧ T j (f j) w) →
      ∀ Kc : Act → World → Prop, (∀ v w', T i v w' → Below w.heap.size w w' → (∀ b, bo i v = some b → w.heap.size ≤ b) → Kc (a.put (some (dOf ops i)) v) w') → wpOp P ops Q i Kc a w)
    (fin : ∀ fuel a w f, N - K ≤ fuel → MonoJ ops K N n M0 W T bo (fun _ => True) a w f → wpAny P .any ops Q fuel (allB K N) a w) :
    ∀ (c fuel : Nat) (listed : Array Bool) (a : Act) (w : World) (f : Nat → Value), ((List.range K).filter fun i => !listed.getD i false).length = c → c + (N - K) ≤ fuel → listed.size = N → Closed ops listed → (∀ i, K ≤ i → ¬ Lst listed i) →
      MonoJ ops K N n M0 W T bo (Lst listed) a w f → wpAny P .any ops Q fuel listed a w := by
  intro c
  induction c with
  | zero =>
    intro fuel listed a w f hc hf hsz hcl hhi hJ
    have hall : ∀ i, i < K → Lst listed i := fun i hi => by
      have h0 := List.eq_nil_of_length_eq_zero hc
      have h1 : i ∉ (List.range K).filter fun i => !listed.getD i false := by rw [h0]; simp
      rw [List.mem_filter] at h1
      have h2 : ¬ ((!listed.getD i false) = true) := fun h => h1 ⟨List.mem_range.2 hi, h⟩
      simpa [Lst] using h2
    have hl : listed = allB K N := by
      unfold allB
      refine Array.ext (by simp [hsz]) fun i h1 h2 => ?_
      rw [Array.getElem_ofFn]
      have e : listed[i] = listed.getD i false := by simp [h1]
      rw [e]
      by_cases hi : i < K
      · rw [decide_eq_true hi]; exact hall i hi
      · rw [decide_eq_false hi]
        have := hhi i (by omega)
        simpa [Lst] using this
    rw [hl]
    exact fin fuel a w f (by omega) ⟨hJ.below, hJ.fr, fun i hi _ => hJ.val i hi (hall i hi), fun i j hi hj hne _ _ => hJ.ap i j hi hj hne (hall i hi) (hall j hj)⟩
  | succ c ih =>
    intro fuel listed a w f hc hf hsz hcl hhi hJ
    obtain ⟨fuel, rfl⟩ : ∃ q, fuel = q + 1 := ⟨fuel - 1, by omega⟩
    have hex : ∃ i, i < K ∧ ¬ Lst listed i := by
      have hne : (List.range K).filter (fun i => !listed.getD i false) ≠ [] := fun e => by rw [e] at hc; simp at hc
      obtain ⟨i, hi⟩ := List.exists_mem_of_ne_nil _ hne
      rw [List.mem_filter, List.mem_range] at hi
      exact ⟨i, hi.1, by simpa [Lst] using hi.2⟩
    have huns : ∀ i, i < N → ¬ Lst listed i → listed.getD i true = false := fun i hi hl => by
      have h1 : i < listed.size := by omega
      have h2 : listed.getD i false = false := by simpa [Lst] using hl
      simp [h1] at h2 ⊢
      exact h2
    refine ⟨fun hnil => ?_, fun i hi => ?_⟩
    · obtain ⟨i0, hi0⟩ := hex
      obtain ⟨m, ⟨hm1, hm2⟩, hm3⟩ := least_of (p := fun i => i < K ∧ ¬ Lst listed i) (fun k => Classical.em _) i0 hi0
      obtain ⟨o, ho, _, hdep⟩ := hR.op m hm1
      have : m ∈ Region.ready .any ops listed := mem_ready.2 ⟨huns m (by have := hR.kn; omega) hm2, o, ho, fun e he hb => by
        have h1 := hdep e he hb
        have h2 := hm3 e.on h1
        exact Classical.byContradiction fun h3 => h2 ⟨by omega, h3⟩⟩
      rw [hnil] at this
      cases this
    · obtain ⟨hun, o, ho, hall⟩ := mem_ready.1 hi
      have hiN : i < N := by have := (Array.getElem?_eq_some_iff.1 ho).1; rw [hR.size] at this; exact this
      have hunl : ¬ Lst listed i := fun h => by
        have h1 : i < listed.size := by omega
        unfold Lst at h
        simp [h1] at h hun
        rw [h] at hun; cases hun
      have hiK : i < K := by
        rcases Nat.lt_or_ge i K with h | h
        · exact h
        · obtain ⟨j, hj, hjl⟩ := hex
          exact absurd (ready_anc hcl hi (by omega) (hR.up i j h hiN hj)) hjl
      refine H i o hiK ho a w f hJ.below hJ.fr (fun j ⟨e, he, hb, hej⟩ => ?_) _ fun v w' hT hbw hnew => ?_
      · obtain ⟨o', ho', _, hdep⟩ := hR.op i hiK
        rw [ho] at ho'
        injection ho' with ho'
        subst ho'
        have h1 := hdep e he hb
        have h2 := hall e he hb
        rw [hej] at h1 h2
        exact hJ.val j (by omega) h2
      · have hset : ∀ j, Lst (listed.setIfInBounds i true) j → Lst listed j ∨ j = i := fun j h => by
          by_cases hij : i = j
          · exact .inr hij.symm
          · unfold Lst at h ⊢
            rw [getD_set_ne false hij] at h
            exact .inl h
        refine ih fuel (listed.setIfInBounds i true) _ w' _ ?_ (by omega) (by simp [hsz]) (closed_step hcl hi) (fun j hj hl => ?_) (mono_step hR hmono hlt hiK hJ hset hT hbw hnew)
        · have key : ∀ l : List Nat, l.Nodup → i ∈ l → (l.filter fun j => !listed.getD j false).length = (l.filter fun j => !(listed.setIfInBounds i true).getD j false).length + 1 := by
            intro l
            induction l with
            | nil => intro _ h; simp at h
            | cons x r ihl =>
              intro hnd hmem
              have hx := (List.nodup_cons.1 hnd)
              by_cases hxi : x = i
              · subst hxi
                have h1 : (!listed.getD x false) = true := by simpa [Lst] using hunl
                have hxs : x < listed.size := by omega
                have h2 : (listed.setIfInBounds x true).getD x false = true := by simp [hxs]
                have h3 : (r.filter fun j => !listed.getD j false) = (r.filter fun j => !(listed.setIfInBounds x true).getD j false) := by
                  refine List.filter_congr fun j hj => ?_
                  rw [getD_set_ne false (fun e => hx.1 (by rw [e]; exact hj))]
                rw [List.filter_cons, if_pos h1, List.filter_cons, if_neg (by rw [h2]; simp), h3]
                rfl
              · have hr := ihl hx.2 ((List.mem_cons.1 hmem).resolve_left (Ne.symm hxi))
                have e : (listed.setIfInBounds i true).getD x false = listed.getD x false := getD_set_ne false (Ne.symm hxi)
                rw [List.filter_cons, List.filter_cons, e]
                split
                · simp only [List.length_cons]; omega
                · exact hr
          have := key (List.range K) List.nodup_range (List.mem_range.2 hiK)
          omega
        · rcases hset j hl with h | h
          · exact hhi j hj h
          · omega
/-- The beginning. -/
theorem wp_mono_region {id : Nat} {l : List Oper} {B : Code} {a : Act} (hm : P.follows .mixedOrders = true) (K N : Nat) (hR : MonoR l.toArray K N n M0) (T : Nat → Value → World → Prop) (bo : Nat → Value → Option Nat) (hM : Frm a n M0)
    (hmono : ∀ i v w w', T i v w → Below w.heap.size w w' → T i v w') (hlt : ∀ i v w, T i v w → ∀ b, bo i v = some b → b < w.heap.size)
    (H : ∀ i o, i < K → l.toArray[i]? = some o → ∀ (a : Act) (w : World) (f : Nat → Value), Below W.heap.size W w → Frm a n M0 → (∀ j, (∃ e ∈ o.after, Region.binds .any e = true ∧ e.on = j) → Frm a n ((dOf l.toArray j, f j) :: M0) ∧ T j (f j) w) →
      ∀ Kc : Act → World → Prop, (∀ v w', T i v w' → Below w.heap.size w w' → (∀ b, bo i v = some b → w.heap.size ≤ b) → Kc (a.put (some (dOf l.toArray i)) v) w') → wpOp P l.toArray (OnlyN fun a w => B.wp P Q a w) i Kc a w)
    (fin : ∀ fuel a w f, N - K ≤ fuel → MonoJ l.toArray K N n M0 W T bo (fun _ => True) a w f → wpAny P .any l.toArray (OnlyN fun a w => B.wp P Q a w) fuel (allB K N) a w) : ((Code.region id l.toArray true).seq B).wp P Q a W := by
  refine wp_seq (wp_mono (Q := OnlyN fun a w => B.wp P Q a w) (wp_region_any hm ?_) ?_)
  · have hsz : l.toArray.size = N := hR.size
    rw [hsz]
    have hno : ∀ i, ¬ Lst (Array.replicate N false) i := fun i h => by
      unfold Lst at h
      rw [Array.getD_eq_getD_getElem?] at h
      rw [Array.getElem?_replicate] at h
      split at h <;> simp at h
    have hkn := hR.kn
    refine mono_go (f := fun _ => undef) hR hmono hlt H fin K N (Array.replicate N false) a W.drew ?_ (by omega) (by simp) (fun j o ho hl => absurd hl (hno j)) (fun i _ => hno i) ⟨(Below.refl _ W).drew, hM, fun i _ hl => absurd hl (hno i), fun i _ _ _ _ hl => absurd hl (hno i)⟩
    rw [List.filter_eq_self.2 (fun i _ => by have := hno i; simpa [Lst] using this), List.length_range]
  · rintro e a' w' ⟨rfl, h⟩
    exact h
end
end Go.Proofs.Ytflamhndmggiaaa
/-
  Contracts of package net: node, Count, at.
-/
namespace Go.Proofs.Ytflamhndmggiaaa
open Go.RowKit

theorem isPair_way : IsPair Try.prog 115 3 3 ((Try.prog.fieldsOf 115).getD 0 default) ((Try.prog.fieldsOf 115).getD 1 default) where
  k := by kernel_rfl
  e0 := by kernel_rfl
  e1 := by kernel_rfl
  o0 := by kernel_rfl
  o1 := by kernel_rfl
  u0 := by kernel_rfl
  u1 := by kernel_rfl
  n0 := by decide +kernel
  n1 := by decide +kernel
  h := by kernel_rfl
theorem keys_way : KeyFam Try.prog 115 pairV := keys_pair isPair_way
theorem under_ways : Try.prog.underlying 111 = some (.map 115 57) := by kernel_rfl
theorem zero_rows (w : World) : (zeroValue 57).run Try.prog w = .ok nilV w := by kernel_rfl
def nodeB (n : Int) : Bool := decide (1 ≤ n ∧ n ≤ 16)
theorem net_node (n : Int) (w : World) : Calls Try.prog 73 #[.int .i64 n] w fun e w' => e = .returned (.bool (nodeB n)) ∧ w = w' := by
  by_cases h1 : 1 ≤ n <;> by_cases h2 : n ≤ 16
  all_goals
    go_enter Try.func73, Try.ntmps73
    go_wp2_with fail
    go_ret
    refine ⟨?_, rfl⟩
    simp [nodeB, h1, h2]
section
variable {F : Nat → Prop} {w : World} {g m : Nat} {rows : Int × Int → Option Value} {st : Int × Int → List (Value × List UInt8)}
theorem NtJ.row (h : NtJ F w g m rows st) (q : Int × Int) : ∃ A c, (rows q).getD nilV = .slice A (st q).length c ∧ (st q).length ≤ c ∧ c ≤ 9223372036854775807 ∧ Sl w 1 A (st q).length ((st q).map (·.1)) := by
  have ho := h.own q
  obtain ⟨A, c, e, h1, h2⟩ := own_slice_cap ho
  rw [e] at ho
  exact ⟨A, c, e, h1, by unfold maxLen at h2; exact h2, Sl.of_own ho⟩
theorem NtJ.look (h : NtJ F w g m rows st) {q : Int × Int} {v : Value} (hv : (rows q).getD nilV = v) (w' : World) (hb : Below w.heap.size w w') : (Instr.lookup 111 (.map (some m)) (pairV q) false).run Try.prog w' = .ok v w' := by
  have := (h.mp.later hb).mp.look keys_way under_ways (zero_rows w') q false
  rw [hv] at this
  exact this
end
set_option maxHeartbeats 1000000 in
theorem net_Count {F : Nat → Prop} {w : World} {g m : Nat} {rows : Int × Int → Option Value} {st : Int × Int → List (Value × List UInt8)} (a b : Int) (h : NtJ F w g m rows st) :
    Calls Try.prog 45 #[.pointer (some ⟨g, 0, none⟩), .int .i64 a, .int .i64 b] w fun e w' => e = .returned (.int .i64 ((st (a, b)).length : Int)) ∧ w = w' := by
  obtain ⟨A, c, hv, hc, hm, _⟩ := h.row (a, b)
  have hr := h.look hv w (Below.refl _ _)
  have hk := h.k.at_ (i := 0) rfl
  have hl := h.cnt (a, b)
  clear hv
  generalize (st (a, b)).length = n at *
  unfold pairV at hr
  clear h
  go_enter Try.func45, Try.ntmps45
  go_wp2_with fail
  go_ret
  exact ⟨rfl, rfl⟩
section
variable {F : Nat → Prop} {w : World} {g m : Nat} {rows : Int × Int → Option Value} {st : Int × Int → List (Value × List UInt8)}
theorem NtJ.cell (h : NtJ F w g m rows st) {q : Int × Int} {A : Option Addr} {c i : Nat} {p : Value × List UInt8} (hv : (rows q).getD nilV = .slice A (st q).length c) (hi : (st q)[i]? = some p) : ∃ gr, A = some ⟨gr, 0, none⟩ ∧ gr < w.heap.size ∧ w.cell? ⟨gr, i, none⟩ = some p.1 ∧ ∃ A1 c1, p.1 = .slice A1 p.2.length c1 ∧ p.2.length ≤ c1 ∧ c1 ≤ 9223372036854775807 ∧ Sl w 1 A1 p.2.length (bytes8 p.2) := by
  have ho := h.own q
  rw [hv] at ho
  have hlt := lt_of_at hi
  obtain ⟨gr, cap, e, _, hl⟩ := ho.form (by omega)
  injection e with e _ _
  refine ⟨gr, e, hl, ?_, ?_⟩
  · have := ho.cells (g := gr) (by rw [e]; rfl) i p.1 (by rw [List.getElem?_map, hi]; rfl)
    rwa [add_lit, Nat.zero_add] at this
  · have hel := h.el q p (mem_of_at hi)
    obtain ⟨A1, c1, e1, h1, h2⟩ := own_slice_cap hel
    rw [e1] at hel
    exact ⟨A1, c1, e1, h1, by unfold maxLen at h2; exact h2, Sl.of_own hel⟩
end
set_option maxHeartbeats 1000000 in
theorem net_at_no {F : Nat → Prop} {w : World} {g m : Nat} {rows : Int × Int → Option Value} {st : Int × Int → List (Value × List UInt8)} (a b k : Int) (h : NtJ F w g m rows st) (hk : k < 0 ∨ ((st (a, b)).length : Int) ≤ k) :
    Calls Try.prog 74 #[.pointer (some ⟨g, 0, none⟩), pairV (a, b), .int .i64 k] w fun e w' => e = .returned (.tuple #[.slice none 0 0, .bool false]) ∧ Below w.heap.size w w' := by
  obtain ⟨A, c, hv, hc, hm, _⟩ := h.row (a, b)
  have hb := fun q => below_drewN ((Below.refl _ w).alloc (Nat.le_refl _) (.cells #[.int .i64 a, .int .i64 b] 115)) q
  have hr := fun q => h.look hv _ (hb q)
  have h0 := fun q => ((h.below (hb q)).k.at_ (i := 0) rfl)
  have hl := h.cnt (a, b)
  clear hv
  generalize (st (a, b)).length = n at *
  unfold pairV at hr ⊢
  simp only at hr ⊢
  clear h
  by_cases h1 : k < 0
  · have hd1 : decide (k < 0) = true := by simpa using h1
    go_enter Try.func74, Try.ntmps74
    go_wp2_with fail
    go_quiet (fail)
    go_wp2_with fail
    go_ret2
    exact ⟨rfl, hb _⟩
  · have hd1 : decide (k < 0) = false := by simpa using h1
    have hd2 : decide ((n : Int) ≤ k) = true := by simp; omega
    go_enter Try.func74, Try.ntmps74
    go_wp2_with fail
    go_quiet (fail)
    go_wp2_with fail
    go_ret2
    exact ⟨rfl, hb _⟩
set_option maxHeartbeats 1000000 in
theorem net_at_yes {F : Nat → Prop} {w : World} {g m i : Nat} {rows : Int × Int → Option Value} {st : Int × Int → List (Value × List UInt8)} {p : Value × List UInt8} (a b : Int) (h : NtJ F w g m rows st) (hi : (st (a, b))[i]? = some p) :
    Calls Try.prog 74 #[.pointer (some ⟨g, 0, none⟩), pairV (a, b), .int .i64 (i : Int)] w fun e w' => e = .returned (.tuple #[p.1, .bool true]) ∧ Below w.heap.size w w' := by
  obtain ⟨A, c, hv, hc, hm, _⟩ := h.row (a, b)
  obtain ⟨gr, rfl, hgl, hcell, _⟩ := h.cell hv hi
  have hb := fun q => below_drewN ((Below.refl _ w).alloc (Nat.le_refl _) (.cells #[.int .i64 a, .int .i64 b] 115)) q
  have hr := fun q => h.look hv _ (hb q)
  have h0 := fun q => ((h.below (hb q)).k.at_ (i := 0) rfl)
  have h2 := fun q => cell_later (hb q) hcell
  have hl := h.cnt (a, b)
  have hlt := lt_of_at hi
  have hk0 : ¬ (i : Int) < 0 := by omega
  have hk1 : decide ((i : Int) < 0) = false := by simp
  clear hv hcell
  generalize (st (a, b)).length = n at *
  have hk2 : decide ((n : Int) ≤ (i : Int)) = false := by simp; omega
  unfold pairV at hr ⊢
  simp only at hr ⊢
  clear h hi
  generalize p.1 = V at *
  go_enter Try.func74, Try.ntmps74
  go_wp2_with fail
  go_quiet (fail)
  go_wp2_with fail
  go_quiet (fail)
  go_wp2_with fail
  go_ret2
  exact ⟨rfl, below_drewN (hb _) _⟩
theorem net_nodeR (n : Int) (w : World) {r : Bool} (hr : Hid (nodeB n = r)) : Calls Try.prog 73 #[.int .i64 n] w fun e w' => e = .returned (.bool r) ∧ w = w' := by
  have h := net_node n w
  rw [hr.out] at h
  exact h
section
variable {P : Program} {a : Act} {n : Nat} {M : List (Nat × Value)} {ops : Array Oper} {o : Oper} {w w' : World} {v : Value} {Q : Exit → Act → World → Prop} {K : Act → World → Prop} {i : Nat}
theorem ev_look {t : TypeId} {x y : Operand} {m : Nat} {k : Int × Int} (ho : o.op = .lookup t x y false) (hx : opv M x = some (.map (some m))) (hy : opv M y = some (pairV k)) (hr : (Instr.lookup t (.map (some m)) (pairV k) false).run P w = .ok v w) : Ev P M o w v := fun a n hM => by
  simp only [execOp, ho, hM.evo hx, hM.evo hy]
  simp [Sem.run_bind, hr]
theorem run_entry {t : TypeId} {x y : Operand} {vx vy : Value} (hM : Frm a n M) (ho : o.op = .mapEntry t x y) (hx : opv M x = some vx) (hy : opv M y = some vy) (hr : (Instr.mapEntry t vx vy).run P w = .ok v w') : (execOp a.eval o).run P w = .ok (.value v) w' := by
  simp only [execOp, ho, hM.evo hx, hM.evo hy]
  simp [Sem.run_bind, hr]
theorem run_entryStore {t : TypeId} {x y z : Operand} {vx vy vz : Value} (hM : Frm a n M) (ho : o.op = .entryStore t x y z) (hx : opv M x = some vx) (hy : opv M y = some vy) (hz : opv M z = some vz) (hr : (Instr.entryStore t vx vy vz).run P w = .ok () w') : (execOp a.eval o).run P w = .ok .skip w' := by
  simp only [execOp, ho, hM.evo hx, hM.evo hy, hM.evo hz]
  simp [Sem.run_bind, hr]
theorem run_mapUpdate {t : TypeId} {x y z : Operand} {vx vy vz : Value} (hM : Frm a n M) (ho : o.op = .mapUpdate t x y z) (hx : opv M x = some vx) (hy : opv M y = some vy) (hz : opv M z = some vz) (hr : (Instr.mapUpdate t vx vy vz).run P w = .ok () w') : (execOp a.eval o).run P w = .ok .skip w' := by
  simp only [execOp, ho, hM.evo hx, hM.evo hy, hM.evo hz]
  simp [Sem.run_bind, hr]
theorem n_val {d : Nat} (hi : ops[i]? = some o) (hM : Frm a n M) (hw : Want ops M o) (hd : o.dst = some d) (hr : (execOp a.eval o).run P w = .ok (.value v) w') (h : K (a.put (some d) v) w') : wpOp P ops Q i K a w := by
  unfold wpOp
  rw [hi]
  show (if Region.wanted o (yielded ops a.tmps) then _ else _)
  rw [if_pos (hw.is hM)]
  refine .inl ?_
  unfold Oper.wp
  rw [hr, Oper.upon_value, hd]
  exact h
theorem n_skip (hi : ops[i]? = some o) (hg : o.guard = none) (hd : o.dst = none) (hr : (execOp a.eval o).run P w = .ok .skip w') (h : K a w') : wpOp P ops Q i K a w := by
  unfold wpOp
  rw [hi]
  show (if Region.wanted o (yielded ops a.tmps) then _ else _)
  rw [if_pos (by simp [Region.wanted, hg])]
  refine .inl ?_
  unfold Oper.wp
  rw [hr, Oper.upon_skip, hd]
  exact h
theorem n_dep {o : Oper} {j : Nat} (h : (o.after.any fun e => Region.binds .any e && Nat.beq e.on j) = true) : ∃ e ∈ o.after, Region.binds .any e = true ∧ e.on = j := by
  obtain ⟨e, he, hb⟩ := Array.any_eq_true'.1 h
  rw [Bool.and_eq_true] at hb
  exact ⟨e, he, hb.1, Nat.eq_of_beq_eq_true hb.2⟩
theorem n_call {d : Nat} {f : FuncId} {args : Array Value} {Post : Ending → World → Prop} (hi : ops[i]? = some o) (hM : Frm a n M) (hw : Want ops M o) (hd : o.dst = some d) (hr : (execOp a.eval o).run P w = .ok (.enter f args) w)
    (hc : Calls P f args w Post) (h : ∀ e w', Post e w' → ∃ v, e = .returned v ∧ K (a.put (some d) v) w') : wpOp P ops Q i K a w := by
  unfold wpOp
  rw [hi]
  show (if Region.wanted o (yielded ops a.tmps) then _ else _)
  rw [if_pos (hw.is hM)]
  refine .inl ?_
  unfold Oper.wp
  rw [hr, Oper.upon_enter]
  refine hc.mono ?_
  intro e w' hp
  obtain ⟨v, rfl, hk⟩ := h e w' hp
  simp only [hd]
  exact hk
theorem n_only {listed : Array Bool} {fuel : Nat} (q : Nat) (hrs : Region.ready .any ops listed = [q]) (h : wpOp P ops Q q (fun a w => wpAny P .any ops Q fuel (listed.setIfInBounds q true) a w) a w) : wpAny P .any ops Q (fuel + 1) listed a w := by
  refine ⟨fun h0 => absurd (hrs ▸ h0) (by simp), fun j hj => ?_⟩
  rw [hrs] at hj
  obtain rfl : j = q := by simpa using hj
  exact h
/-- The last one of a region. -/
theorem z_end {S : World → Prop} {Kx : Act → World → Prop} {fuel z : Nat} {listed : Array Bool} (hz : ops[z]? = some o) (hrs : Region.ready .any ops listed = [z]) (hg : o.guard = none) (hd : o.dst = none) (hr : (execOp a.eval o).run P w = .ok .skip w') (hnil : Region.ready .any ops (listed.setIfInBounds z true) = [])
    (h : Kx a w') : wpAnyZ P ops (OnlyN Kx) S z (fuel + 1) listed a w := by
  refine z_only z hrs (n_skip hz hg hd hr ⟨.inl rfl, ?_⟩)
  cases fuel with
  | zero => exact ⟨hnil, rfl, h⟩
  | succ f => exact ⟨fun _ => ⟨rfl, h⟩, by rw [hnil]; simp⟩
end
theorem alloc_way (w : World) : (Instr.alloc 115 true (.tuple #[])).run Try.prog w = .ok (.pointer (some ⟨w.heap.size, 0, none⟩)) (w.alloc (.cells #[.int .i64 0, .int .i64 0] 115)) := by
  simp [go_sem]
theorem info_way : (Try.prog.info? 115).map (·.size) = some 2 := by kernel_rfl
theorem one_way {a b : Int} : ∀ z ∈ (#[.int .i64 a, .int .i64 b] : Array Value).toList, z.oneCell' = true := by simp [Value.oneCell']
end Go.Proofs.Ytflamhndmggiaaa
