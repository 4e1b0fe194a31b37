/- A disk, as its files by name: what each call makes of it. No program in sight. -/
import Derived.Test.YtgdcdcacccaanaaDiskF
namespace Go.Proofs.Ytgdcdcacccaanaa
set_option linter.unusedSimpArgs false
set_option linter.unusedVariables false

/-- The order of names. -/
def ltN (a b : ByteArray) : Bool := Go.Op.bytesLess a.toList b.toList
theorem bytesLess_irrefl : ∀ l : List UInt8, Go.Op.bytesLess l l = false
  | [] => rfl
  | a :: l => by simp [Go.Op.bytesLess, bytesLess_irrefl l]
theorem bytesLess_trans : ∀ {a b c : List UInt8}, Go.Op.bytesLess a b = true → Go.Op.bytesLess b c = true → Go.Op.bytesLess a c = true
  | [], _ :: _, _ :: _, _, _ => by simp [Go.Op.bytesLess]
  | x :: a, y :: b, z :: c, h1, h2 => by
    simp only [Go.Op.bytesLess, Bool.or_eq_true, decide_eq_true_eq, Bool.and_eq_true, beq_iff_eq] at h1 h2 ⊢
    rcases h1 with h1 | ⟨rfl, h1⟩ <;> rcases h2 with h2 | ⟨rfl, h2⟩
    · exact .inl (UInt8.lt_trans h1 h2)
    · exact .inl h1
    · exact .inl h2
    · exact .inr ⟨rfl, bytesLess_trans h1 h2⟩
  | _, [], _, h1, _ => by simp [Go.Op.bytesLess] at h1
  | _ :: _, _ :: _, [], _, h2 => by simp [Go.Op.bytesLess] at h2
  | [], _ :: _, [], _, h2 => by simp [Go.Op.bytesLess] at h2
theorem bytesLess_total : ∀ {a b : List UInt8}, Go.Op.bytesLess a b = false → a ≠ b → Go.Op.bytesLess b a = true
  | [], [], _, h => (h rfl).elim
  | [], _ :: _, h, _ => by simp [Go.Op.bytesLess] at h
  | _ :: _, [], _, _ => by simp [Go.Op.bytesLess]
  | x :: a, y :: b, h1, h2 => by
    simp only [Go.Op.bytesLess, Bool.or_eq_false_iff, decide_eq_false_iff_not, Bool.and_eq_false_iff, beq_eq_false_iff_ne, Bool.or_eq_true, decide_eq_true_eq, Bool.and_eq_true, beq_iff_eq] at h1 ⊢
    by_cases hxy : x = y
    · subst hxy
      have h3 := h1.2.resolve_left (by simp)
      exact .inr ⟨rfl, bytesLess_total h3 (fun he => h2 (by rw [he]))⟩
    · refine .inl ?_
      have h3 : ¬ x < y := h1.1
      have h4 : y ≤ x := UInt8.not_lt.1 h3
      rcases UInt8.lt_or_eq_of_le h4 with h5 | h5
      · exact h5
      · exact absurd h5.symm hxy
theorem toList_inj {a b : ByteArray} (h : a.toList = b.toList) : a = b := by
  have e : ∀ s : ByteArray, s.toList = s.data.toList := fun s => ByteArray.toList_eq s
  rw [e, e] at h
  cases a; cases b
  simp only [Array.toList_inj] at h
  subst h; rfl
theorem ltN_irrefl (a : ByteArray) : ltN a a = false := bytesLess_irrefl _
theorem ltN_trans {a b c : ByteArray} (h : ltN a b = true) (h' : ltN b c = true) : ltN a c = true := bytesLess_trans h h'
theorem ltN_total {a b : ByteArray} (h : ltN a b = false) (hne : a ≠ b) : ltN b a = true := bytesLess_total h fun he => hne (toList_inj he)

section
variable {α : Type}
/-- What stands at a name. -/
def lk (l : List (ByteArray × α)) (s : ByteArray) : Option α := (l.find? fun x => decide (x.1 = s)).map (·.2)
def Sorted (l : List (ByteArray × α)) : Prop := l.Pairwise fun x y => ltN x.1 y.1 = true
/-- A name's value laid in, or laid anew. -/
def putF : List (ByteArray × α) → ByteArray → α → List (ByteArray × α)
  | [], s, v => [(s, v)]
  | (t, u) :: l, s, v => if t = s then (s, v) :: l else if ltN s t = true then (s, v) :: (t, u) :: l else (t, u) :: putF l s v
def delF (l : List (ByteArray × α)) (s : ByteArray) : List (ByteArray × α) := l.filter fun x => decide (x.1 ≠ s)
theorem lk_nil (s : ByteArray) : lk ([] : List (ByteArray × α)) s = none := rfl
theorem lk_cons (t : ByteArray) (u : α) (l : List (ByteArray × α)) (s : ByteArray) : lk ((t, u) :: l) s = if t = s then some u else lk l s := by
  unfold lk
  by_cases h : t = s <;> simp [List.find?_cons, h]
theorem lk_none_of_lt {l : List (ByteArray × α)} {s : ByteArray} (h : ∀ x ∈ l, ltN s x.1 = true) : lk l s = none := by
  induction l with
  | nil => rfl
  | cons x l ih =>
    obtain ⟨t, u⟩ := x
    rw [lk_cons]
    have h1 : ltN s t = true := h (t, u) (by simp)
    have h2 : t ≠ s := fun he => by rw [he, ltN_irrefl] at h1; cases h1
    rw [if_neg h2]
    exact ih fun x hx => h x (by simp [hx])
theorem lk_mem {l : List (ByteArray × α)} {s : ByteArray} {v : α} (h : lk l s = some v) : (s, v) ∈ l := by
  induction l with
  | nil => cases h
  | cons x l ih =>
    obtain ⟨t, u⟩ := x
    rw [lk_cons] at h
    split at h
    · rename_i he
      cases h; subst he; simp
    · exact List.mem_cons_of_mem _ (ih h)
theorem lk_of_mem {l : List (ByteArray × α)} (hs : Sorted l) {s : ByteArray} {v : α} (h : (s, v) ∈ l) : lk l s = some v := by
  induction l with
  | nil => cases h
  | cons x l ih =>
    obtain ⟨t, u⟩ := x
    rw [lk_cons]
    rw [Sorted, List.pairwise_cons] at hs
    rcases List.mem_cons.1 h with he | h
    · cases he; simp
    · have h1 := hs.1 _ h
      have h2 : t ≠ s := fun he => by rw [he, ltN_irrefl] at h1; cases h1
      rw [if_neg h2]
      exact ih hs.2 h
theorem lk_put {l : List (ByteArray × α)} (s : ByteArray) (v : α) (t : ByteArray) (hs : Sorted l) : lk (putF l s v) t = if s = t then some v else lk l t := by
  induction l with
  | nil => rw [putF, lk_cons]
  | cons x l ih =>
    obtain ⟨a, u⟩ := x
    rw [Sorted, List.pairwise_cons] at hs
    unfold putF
    split
    · rename_i he
      subst he
      rw [lk_cons, lk_cons]
      split <;> rfl
    · rename_i hne
      split
      · rw [lk_cons]
      · rw [lk_cons, lk_cons, ih hs.2]
        by_cases h1 : a = t
        · subst h1
          simp [Ne.symm hne]
        · simp [h1]
theorem mem_put {l : List (ByteArray × α)} {s : ByteArray} {v : α} {x : ByteArray × α} (h : x ∈ putF l s v) : x = (s, v) ∨ x ∈ l := by
  induction l with
  | nil => simpa [putF] using h
  | cons y l ih =>
    obtain ⟨a, u⟩ := y
    unfold putF at h
    split at h
    · rcases List.mem_cons.1 h with h | h
      · exact .inl h
      · exact .inr (List.mem_cons_of_mem _ h)
    · split at h
      · rcases List.mem_cons.1 h with h | h
        · exact .inl h
        · exact .inr h
      · rcases List.mem_cons.1 h with h | h
        · exact .inr (by rw [h]; simp)
        · rcases ih h with h | h
          · exact .inl h
          · exact .inr (List.mem_cons_of_mem _ h)
theorem sorted_put {l : List (ByteArray × α)} (s : ByteArray) (v : α) (hs : Sorted l) : Sorted (putF l s v) := by
  induction l with
  | nil => simp [putF, Sorted]
  | cons x l ih =>
    obtain ⟨a, u⟩ := x
    rw [Sorted, List.pairwise_cons] at hs
    unfold putF
    split
    · rename_i he
      subst he
      exact List.pairwise_cons.2 ⟨hs.1, hs.2⟩
    · rename_i hne
      split
      · rename_i hlt
        refine List.pairwise_cons.2 ⟨fun y hy => ?_, List.pairwise_cons.2 ⟨hs.1, hs.2⟩⟩
        rcases List.mem_cons.1 hy with rfl | hy
        · exact hlt
        · exact ltN_trans hlt (hs.1 y hy)
      · rename_i hlt
        refine List.pairwise_cons.2 ⟨fun y hy => ?_, ih hs.2⟩
        rcases mem_put hy with rfl | hy
        · exact ltN_total (by simpa using hlt) (Ne.symm hne)
        · exact hs.1 y hy
theorem lk_del (l : List (ByteArray × α)) (s t : ByteArray) : lk (delF l s) t = if s = t then none else lk l t := by
  induction l with
  | nil => simp [delF, lk]
  | cons x l ih =>
    obtain ⟨a, u⟩ := x
    unfold delF at ih ⊢
    by_cases ha : a = s
    · subst ha
      rw [List.filter_cons_of_neg (by simp), ih, lk_cons]
      split <;> simp_all
    · rw [List.filter_cons_of_pos (by simpa using ha), lk_cons, lk_cons, ih]
      by_cases h1 : a = t
      · subst h1; simp [Ne.symm ha]
      · simp [h1]
theorem sorted_del {l : List (ByteArray × α)} (s : ByteArray) (hs : Sorted l) : Sorted (delF l s) := List.Pairwise.sublist (List.filter_sublist) hs
theorem sorted_ext {l m : List (ByteArray × α)} (hl : Sorted l) (hm : Sorted m) (h : ∀ s, lk l s = lk m s) : l = m := by
  induction l generalizing m with
  | nil =>
    cases m with
    | nil => rfl
    | cons y m =>
      have := h y.1
      rw [lk_nil, lk_cons, if_pos rfl] at this
      cases this
  | cons x l ih =>
    cases m with
    | nil =>
      have := h x.1
      rw [lk_nil, lk_cons, if_pos rfl] at this
      cases this
    | cons y m =>
      obtain ⟨a, u⟩ := x
      obtain ⟨b, v⟩ := y
      rw [Sorted, List.pairwise_cons] at hl hm
      have hab : a = b := by
        by_cases he : a = b
        · exact he
        have h1 := h a
        have h2 := h b
        rw [lk_cons, if_pos rfl, lk_cons, if_neg (Ne.symm he)] at h1
        rw [lk_cons, if_neg he, lk_cons, if_pos rfl] at h2
        have h3 := hm.1 _ (lk_mem h1.symm)
        have h4 := hl.1 _ (lk_mem h2)
        have := ltN_trans h3 h4
        rw [ltN_irrefl] at this; cases this
      subst hab
      have h1 := h a
      rw [lk_cons, if_pos rfl, lk_cons, if_pos rfl] at h1
      cases h1
      rw [ih hl.2 hm.2 fun s => ?_]
      have h2 := h s
      rw [lk_cons, lk_cons] at h2
      by_cases he : a = s
      · subst he
        rw [lk_none_of_lt hl.1, lk_none_of_lt hm.1]
      · rwa [if_neg he, if_neg he] at h2
end

/-- How many extents in all. -/
def sizeF (l : List (ByteArray × List Cel)) : Nat := (l.map fun x => x.2.length).sum
/-- A disk: its room, its fuse, its files by name. -/
structure Dk where
  room : Int
  fuse : Int
  files : List (ByteArray × List Cel)
def Cel.Fine (c : Cel) : Prop := c.read.length = 128 ∧ c.durable.length = 128 ∧ c.synced.length = 128 ∧ c.written.length = 128
def z128 : List Int := List.replicate 128 0
def Cel.zero : Cel := ⟨z128, z128, z128, z128, false⟩
theorem Cel.zero_fine : Cel.zero.Fine := ⟨rfl, rfl, rfl, rfl⟩
structure Dk.Fine (A : Dk) : Prop where
  sorted : Sorted A.files
  named : ∀ x ∈ A.files, namedB x.1 = true ∧ x.2 ≠ []
  cels : ∀ x ∈ A.files, ∀ c ∈ x.2, c.Fine
  room : 0 ≤ A.room ∧ A.room ≤ 100000
  fuse : -1 ≤ A.fuse ∧ A.fuse ≤ 9223372036854775807
  fits : sizeF A.files ≤ A.room
def Dk.at (A : Dk) (s : ByteArray) : List Cel := (lk A.files s).getD []
def Dk.free (A : Dk) : Int := A.room - sizeF A.files
/-- A change taken off the fuse. -/
def Dk.burnt (A : Dk) : Dk := { A with fuse := (burnI A.fuse).1 }
def Dk.goes (A : Dk) : Bool := (burnI A.fuse).2
def Dk.set (A : Dk) (s : ByteArray) (l : List Cel) : Dk := { A with files := putF A.files s l }
def Cel.wrote (c : Cel) (b : List Int) : Cel := { c with read := b, written := b, waits := true }
def Cel.syncd (c : Cel) : Cel := if c.waits then ⟨c.written, c.written, c.written, c.written, false⟩ else c
/-- Write's answer, and what it makes. -/
def Dk.write (A : Dk) (s : ByteArray) (i : Int) (b : List Int) : Int × Dk :=
  if namedB s = false ∨ b.length ≠ 128 ∨ i < 0 ∨ (A.at s).length < i then (1, A)
  else if A.goes = false then (31, A.burnt)
  else if i = (A.at s).length ∧ A.free ≤ 0 then (4, A.burnt)
  else if i = (A.at s).length then (0, A.burnt.set s (A.at s ++ [Cel.zero.wrote b]))
  else (0, A.burnt.set s ((A.at s).modify i.toNat fun c => c.wrote b))
def Dk.sync (A : Dk) (s : ByteArray) : Int × Dk :=
  match lk A.files s with
  | none => (30, A)
  | some l => if A.goes = false then (31, A.burnt) else (0, A.burnt.set s (l.map Cel.syncd))
def Dk.remove (A : Dk) (s : ByteArray) : Int × Dk :=
  match lk A.files s with
  | none => (30, A)
  | some _ => if A.goes = false then (31, A.burnt) else (0, { A.burnt with files := delF A.files s })
def Dk.cel (A : Dk) (s : ByteArray) (i : Int) : Option Cel := if 0 ≤ i then (A.at s)[i.toNat]? else none
end Go.Proofs.Ytgdcdcacccaanaa
