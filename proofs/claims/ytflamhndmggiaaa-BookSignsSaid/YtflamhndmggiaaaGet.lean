
/-
  What bytes are read as: texts, numbers: plain facts, over no program.
-/
import Derived.Test.YtflamhndmggiaaaWirF
namespace Go.Proofs.Ytflamhndmggiaaa

/-- A text of bytes. -/
def tx (bs : List UInt8) : ByteArray := ⟨bs.toArray⟩
theorem tx_size (bs : List UInt8) : (tx bs).size = bs.length := by show bs.toArray.size = _; simp
theorem tx_data (bs : List UInt8) : (tx bs).data.toList = bs := by simp [tx]
theorem tx_of (s : ByteArray) : tx s.data.toList = s := by cases s; simp [tx]

/-- Things, so many, to the end. -/
def rdL {α : Type} (one : List UInt8 → Option (α × List UInt8)) : Nat → List UInt8 → Option (List α)
  | 0, r => if r = [] then some [] else none
  | n + 1, r =>
    match one r with
    | none => none
    | some (a, r') =>
      match rdL one n r' with
      | none => none
      | some l => some (a :: l)
/-- Things, of whole bytes. -/
def getL {α : Type} (one : List UInt8 → Option (α × List UInt8)) (bs : List UInt8) : Option (List α) :=
  if 1048576 < bs.length then none else
  match getN bs with
  | none => none
  | some (m, k) => if m ≤ (bs.drop k).length then rdL one m (bs.drop k) else none
def oneT (r : List UInt8) : Option (ByteArray × List UInt8) :=
  match getN r with
  | none => none
  | some (m, k) => if m ≤ (r.drop k).length then some (tx ((r.drop k).take m), (r.drop k).drop m) else none
def oneI (r : List UInt8) : Option (Int × List UInt8) :=
  match getN r with
  | none => none
  | some (m, k) => some ((m : Int), r.drop k)
def getT (bs : List UInt8) : Option (List ByteArray) := getL oneT bs
def getI (bs : List UInt8) : Option (List Int) := getL oneI bs

theorem getN_some {bs : List UInt8} {m k : Nat} (h : getN bs = some (m, k)) : m ≤ 9223372036854775807 ∧ k = (enc m).length ∧ bs = enc m ++ bs.drop k ∧ 0 < k ∧ k ≤ bs.length := by
  obtain ⟨h1, h2, r, h3⟩ := dec_some 9 bs m k h
  have e : (128 : Nat) ^ 9 = 9223372036854775808 := by decide
  have h4 : bs.drop k = r := by rw [h3, h2]; simp
  refine ⟨by omega, h2, by rw [h4]; exact h3, by rw [h2]; exact enc_pos m, ?_⟩
  rw [h3, h2]; simp
theorem getN_of (m : Nat) (hm : m ≤ 9223372036854775807) (r : List UInt8) : getN (enc m ++ r) = some (m, (enc m).length) :=
  dec_enc 9 m r (by have : (128 : Nat) ^ 9 = 9223372036854775808 := by decide
                    omega) (by omega)

/-- A way to lay things as bytes, and to read them. -/
structure Codec {α : Type} (one : List UInt8 → Option (α × List UInt8)) (e : α → List UInt8) (dom : α → Prop) : Prop where
  pos : ∀ a, 0 < (e a).length
  there : ∀ a r, dom a → one (e a ++ r) = some (a, r)
  back : ∀ r a r', one r = some (a, r') → r = e a ++ r' ∧ dom a

def encT (s : ByteArray) : List UInt8 := enc s.size ++ s.data.toList
def encI (n : Int) : List UInt8 := enc n.toNat
theorem codecT : Codec oneT encT (fun s => s.size ≤ 9223372036854775807) := by
  refine ⟨fun a => ?_, fun a r h => ?_, fun r a r' h => ?_⟩
  · have := enc_pos a.size
    simp only [encT, List.length_append]; omega
  · unfold oneT encT
    rw [List.append_assoc, getN_of _ h]
    simp only [List.drop_left']
    rw [if_pos (by rw [List.length_append, bytes_len]; omega)]
    have e1 : (a.data.toList ++ r).take a.size = a.data.toList := List.take_left' (bytes_len a)
    have e2 : (a.data.toList ++ r).drop a.size = r := List.drop_left' (bytes_len a)
    rw [e1, e2, tx_of]
  · unfold oneT at h
    cases hg : getN r with
    | none => rw [hg] at h; cases h
    | some p =>
      obtain ⟨m, k⟩ := p
      rw [hg] at h
      simp only at h
      by_cases hm : m ≤ (r.drop k).length
      · rw [if_pos hm] at h
        injection h with h
        injection h with e1 e2
        subst e1; subst e2
        obtain ⟨h1, h2, h3, _, _⟩ := getN_some hg
        have hs : (tx ((r.drop k).take m)).size = m := by rw [tx_size, List.length_take]; omega
        refine ⟨?_, by rw [hs]; exact h1⟩
        unfold encT
        rw [hs, tx_data, List.append_assoc, List.take_append_drop]
        exact h3
      · rw [if_neg hm] at h; cases h
theorem codecI : Codec oneI encI (fun n => 0 ≤ n ∧ n ≤ 9223372036854775807) := by
  refine ⟨fun a => enc_pos _, fun a r h => ?_, fun r a r' h => ?_⟩
  · unfold oneI encI
    rw [getN_of _ (by omega)]
    simp only [List.drop_left']
    congr 2
    omega
  · unfold oneI at h
    cases hg : getN r with
    | none => rw [hg] at h; cases h
    | some p =>
      obtain ⟨m, k⟩ := p
      rw [hg] at h
      injection h with h
      injection h with e1 e2
      subst e1; subst e2
      obtain ⟨h1, h2, h3, _, _⟩ := getN_some hg
      refine ⟨?_, by omega⟩
      unfold encI
      rw [Int.toNat_natCast]
      exact h3

section
variable {α : Type} {one : List UInt8 → Option (α × List UInt8)} {e : α → List UInt8} {dom : α → Prop}
/-- Things' bytes. -/
def putL (e : α → List UInt8) (l : List α) : List UInt8 := enc l.length ++ l.flatMap e
theorem rdL_there (C : Codec one e dom) : ∀ (l : List α), (∀ a ∈ l, dom a) → rdL one l.length (l.flatMap e) = some l
  | [], _ => rfl
  | a :: l, h => by
    rw [List.flatMap_cons, List.length_cons, rdL, C.there a _ (h a (by simp))]
    simp only
    rw [rdL_there C l (fun b hb => h b (by simp [hb]))]
theorem rdL_back (C : Codec one e dom) : ∀ (n : Nat) (r : List UInt8) (l : List α), rdL one n r = some l → r = l.flatMap e ∧ l.length = n ∧ ∀ a ∈ l, dom a
  | 0, r, l, h => by
    rw [rdL] at h
    by_cases hr : r = []
    · rw [if_pos hr] at h
      injection h with h
      subst h
      exact ⟨by simpa using hr, rfl, by simp⟩
    · rw [if_neg hr] at h; cases h
  | n + 1, r, l, h => by
    rw [rdL] at h
    cases h1 : one r with
    | none => rw [h1] at h; cases h
    | some p =>
      obtain ⟨a, r'⟩ := p
      rw [h1] at h
      simp only at h
      cases h2 : rdL one n r' with
      | none => rw [h2] at h; cases h
      | some l' =>
        rw [h2] at h
        injection h with h
        subst h
        obtain ⟨g1, g2, g3⟩ := rdL_back C n r' l' h2
        obtain ⟨g4, g5⟩ := C.back r a r' h1
        refine ⟨by rw [List.flatMap_cons, ← g1]; exact g4, by simp [g2], ?_⟩
        intro b hb
        rcases List.mem_cons.1 hb with rfl | hb
        · exact g5
        · exact g3 b hb
theorem flat_len (hpos : ∀ a, 0 < (e a).length) : ∀ l : List α, l.length ≤ (l.flatMap e).length
  | [] => by simp
  | a :: l => by
    have := flat_len hpos l
    have := hpos a
    rw [List.flatMap_cons, List.length_append, List.length_cons]
    omega
theorem rdL_le (C : Codec one e dom) {n : Nat} {r : List UInt8} {l : List α} (h : rdL one n r = some l) : n ≤ r.length := by
  obtain ⟨h1, h2, _⟩ := rdL_back C n r l h
  have := flat_len C.pos l
  rw [← h1] at this
  omega
theorem getL_there (C : Codec one e dom) {l : List α} (h : ∀ a ∈ l, dom a) (hl : (putL e l).length ≤ 1048576) : getL one (putL e l) = some l := by
  have hc : l.length ≤ (l.flatMap e).length := flat_len C.pos l
  have hn : l.length ≤ 1048576 := by
    rw [putL, List.length_append] at hl; omega
  unfold getL
  rw [if_neg (by omega), putL, getN_of _ (by omega)]
  simp only [List.drop_left']
  rw [if_pos hc]
  exact rdL_there C l h
theorem getL_back (C : Codec one e dom) {bs : List UInt8} {l : List α} (h : getL one bs = some l) : bs = putL e l ∧ bs.length ≤ 1048576 ∧ ∀ a ∈ l, dom a := by
  unfold getL at h
  by_cases hb : 1048576 < bs.length
  · rw [if_pos hb] at h; cases h
  · rw [if_neg hb] at h
    cases hg : getN bs with
    | none => rw [hg] at h; cases h
    | some p =>
      obtain ⟨m, k⟩ := p
      rw [hg] at h
      simp only at h
      by_cases hm : m ≤ (bs.drop k).length
      · rw [if_pos hm] at h
        obtain ⟨h1, h2, h3⟩ := rdL_back C m _ l h
        obtain ⟨_, _, h5, _⟩ := getN_some hg
        refine ⟨?_, by omega, h3⟩
        rw [putL, h2, ← h1]
        exact h5
      · rw [if_neg hm] at h; cases h
/-- How many there are is asked of the rest, or of all: it is one. -/
theorem getL_eq (C : Codec one e dom) {bs : List UInt8} {m k : Nat} (hb : bs.length ≤ 1048576) (hg : getN bs = some (m, k)) : getL one bs = rdL one m (bs.drop k) := by
  unfold getL
  rw [if_neg (by omega), hg]
  simp only
  by_cases hm : m ≤ (bs.drop k).length
  · rw [if_pos hm]
  · rw [if_neg hm]
    cases h : rdL one m (bs.drop k) with
    | none => rfl
    | some l => exact absurd (rdL_le C h) hm
/-- No things' bytes begin with other things' bytes. -/
theorem flat_free (C : Codec one e dom) : ∀ (l l' : List α) (r : List UInt8), l.length = l'.length → (∀ a ∈ l, dom a) → (∀ a ∈ l', dom a) → l.flatMap e ++ r = l'.flatMap e → l = l' ∧ r = []
  | [], [], r, _, _, _, h => ⟨rfl, by simpa using h⟩
  | a :: l, b :: l', r, hl, hd, hd', h => by
    rw [List.flatMap_cons, List.flatMap_cons, List.append_assoc] at h
    have h1 := C.there a (l.flatMap e ++ r) (hd a (by simp))
    have h2 := C.there b (l'.flatMap e) (hd' b (by simp))
    rw [h, h2] at h1
    injection h1 with h1
    injection h1 with e1 e2
    subst e1
    obtain ⟨g1, g2⟩ := flat_free C l l' r (by simpa using hl) (fun a ha => hd a (by simp [ha])) (fun a ha => hd' a (by simp [ha])) e2.symm
    exact ⟨by rw [g1], g2⟩
theorem put_free (C : Codec one e dom) {l l' : List α} {r : List UInt8} (hl : l.length ≤ 1048576) (hl' : l'.length ≤ 1048576) (hd : ∀ a ∈ l, dom a) (hd' : ∀ a ∈ l', dom a) (h : putL e l ++ r = putL e l') : l = l' ∧ r = [] := by
  unfold putL at h
  rw [List.append_assoc] at h
  have h1 := getN_of l.length (by omega) (l.flatMap e ++ r)
  have h2 := getN_of l'.length (by omega) (l'.flatMap e)
  rw [h, h2] at h1
  injection h1 with h1
  injection h1 with e1 e2
  rw [e1] at h
  exact flat_free C l l' r e1.symm hd hd' (List.append_cancel_left h)
theorem put_count (hpos : ∀ a, 0 < (e a).length) (l : List α) : l.length ≤ (putL e l).length := by
  have := flat_len hpos l
  rw [putL, List.length_append]; omega
/-- With something behind they are none. -/
theorem getL_behind (C : Codec one e dom) {l : List α} (hd : ∀ a ∈ l, dom a) (hl : (putL e l).length ≤ 1048576) {r : List UInt8} (hr : r ≠ []) : getL one (putL e l ++ r) = none := by
  cases h : getL one (putL e l ++ r) with
  | none => rfl
  | some l' =>
    obtain ⟨h1, h2, h3⟩ := getL_back C h
    have h4 := put_count C.pos l
    have h5 := put_count C.pos l'
    rw [← h1] at h5
    exact absurd (put_free C (by omega) (by omega) hd h3 h1).2 hr
/-- No beginning of them is any. -/
theorem getL_begin (C : Codec one e dom) {l : List α} (hd : ∀ a ∈ l, dom a) (hl : (putL e l).length ≤ 1048576) {k : Nat} (hk : k < (putL e l).length) : getL one ((putL e l).take k) = none := by
  cases h : getL one ((putL e l).take k) with
  | none => rfl
  | some l' =>
    obtain ⟨h1, h2, h3⟩ := getL_back C h
    have h4 := put_count C.pos l
    have h5 := put_count C.pos l'
    rw [← h1, List.length_take] at h5
    have h6 : putL e l' ++ (putL e l).drop k = putL e l := by rw [← h1, List.take_append_drop]
    have h7 := (put_free C (by omega) (by omega) h3 hd h6).2
    have h8 := congrArg List.length h7
    rw [List.length_drop] at h8
    simp only [List.length_nil] at h8
    omega
end
theorem putL_T (ls : List ByteArray) : putL encT ls = putB ls := rfl
theorem putL_I (xs : List Int) : putL encI xs = numsB xs := rfl
end Go.Proofs.Ytflamhndmggiaaa
