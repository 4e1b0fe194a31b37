/- A disk that is owned, told by its files alone. -/
import Derived.Test.YtgdcdcacccaanaaMapU
import Derived.Test.YtgdcdcacccaanaaDiskG
namespace Go.Proofs.Ytgdcdcacccaanaa
open Go.RowKit HP
set_option linter.unusedSimpArgs false
set_option linter.unusedVariables false

def Fil.cs (f : Fil) : List Cel := f.cels.map (·.2)
def lkF (fs : List Fil) (s : ByteArray) : Option (List Cel) := (fs.find? fun f => decide (f.name = s)).map Fil.cs
structure View (A : Dk) (es : Array MapEntry) (clock : Nat) (fs : List Fil) : Prop where
  map : MapOf es clock fs
  same : ∀ s, lkF fs s = lk A.files s
  fine : A.Fine
def HP.disk (d : Nat) (A : Dk) : HP := HP.ex fun x : Nat × Array MapEntry × Nat × List Fil => HP.fact (View A x.2.1 x.2.2.1 x.2.2.2) * HP.dk d A.room A.fuse x.1 x.2.1 x.2.2.1 x.2.2.2

section
variable {E : Env} {q : HP} {w : World} {d m : Nat} {A : Dk} {es : Array MapEntry} {clock : Nat} {fs : List Fil}
theorem Sat.disk_open (h : Sat E w (HP.disk d A * q)) : ∃ m es clock fs, View A es clock fs ∧ Sat E w (HP.dk d A.room A.fuse m es clock fs * q) := by
  obtain ⟨⟨m, es, clock, fs⟩, h⟩ := h.ex_elim
  obtain ⟨hv, h⟩ := (h.perm (HP.mul_assoc _ _ _)).fact_elim
  exact ⟨m, es, clock, fs, hv, h⟩
theorem Sat.disk_close (hv : View A es clock fs) (h : Sat E w (HP.dk d A.room A.fuse m es clock fs * q)) : Sat E w (HP.disk d A * q) := by
  refine Sat.ex_intro (m, es, clock, fs) ?_
  exact (Sat.fact_intro hv h).perm (HP.mul_assoc _ _ _).symm
theorem Sat.disk_fine (h : Sat E w (HP.disk d A * q)) : A.Fine := by
  obtain ⟨m, es, clock, fs, hv, -⟩ := h.disk_open
  exact hv.fine
end

theorem lkF_at {fs : List Fil} (hn : (fs.map (·.name)).Nodup) {j : Nat} {f : Fil} (h : fs[j]? = some f) : lkF fs f.name = some f.cs := by
  unfold lkF
  rw [find_at hn h]; rfl
theorem lkF_none {fs : List Fil} {s : ByteArray} (h : lkF fs s = none) : ∀ f ∈ fs, f.name ≠ s := by
  intro f hf he
  unfold lkF at h
  rw [Option.map_eq_none_iff, List.find?_eq_none] at h
  have := h f hf
  simp [he] at this
theorem find_set {fs : List Fil} (hn : (fs.map (·.name)).Nodup) {j : Nat} {f f' : Fil} (h : fs[j]? = some f) (he : f'.name = f.name) (s : ByteArray) :
    (fs.set j f').find? (fun x => decide (x.name = s)) = if f.name = s then some f' else fs.find? (fun x => decide (x.name = s)) := by
  induction fs generalizing j with
  | nil => simp at h
  | cons g fs ih =>
    simp only [List.map_cons, List.nodup_cons] at hn
    cases j with
    | zero =>
      simp only [List.getElem?_cons_zero, Option.some.injEq] at h
      subst h
      rw [List.set_cons_zero, List.find?_cons, List.find?_cons]
      by_cases hs : g.name = s
      · simp [he, hs]
      · simp [he, hs]
    | succ j =>
      simp only [List.getElem?_cons_succ] at h
      rw [List.set_cons_succ, List.find?_cons, List.find?_cons, ih hn.2 h]
      have hm : f ∈ fs := List.mem_of_getElem? h
      by_cases hs : g.name = s
      · have : f.name ≠ s := fun h2 => hn.1 (by rw [hs, ← h2]; exact List.mem_map.2 ⟨f, hm, rfl⟩)
        simp [hs, this]
      · simp [hs]
theorem lkF_set {fs : List Fil} (hn : (fs.map (·.name)).Nodup) {j : Nat} {f f' : Fil} (h : fs[j]? = some f) (he : f'.name = f.name) (s : ByteArray) :
    lkF (fs.set j f') s = if f.name = s then some f'.cs else lkF fs s := by
  unfold lkF
  rw [find_set hn h he]
  split <;> rfl
theorem lkF_push {fs : List Fil} {f : Fil} (hn : ∀ x ∈ fs, x.name ≠ f.name) (s : ByteArray) : lkF (fs ++ [f]) s = if f.name = s then some f.cs else lkF fs s := by
  unfold lkF
  rw [List.find?_append]
  by_cases hs : f.name = s
  · have : fs.find? (fun x => decide (x.name = s)) = none := by
      rw [List.find?_eq_none]
      intro x hx
      simp only [decide_eq_true_eq]
      exact fun h => hn x hx (h.trans hs.symm)
    rw [this]
    simp [hs]
  · simp [hs]
theorem lkF_erase {fs : List Fil} (hn : (fs.map (·.name)).Nodup) {j : Nat} {f : Fil} (h : fs[j]? = some f) (s : ByteArray) : lkF (fs.eraseIdx j) s = if f.name = s then none else lkF fs s := by
  unfold lkF
  induction fs generalizing j with
  | nil => simp at h
  | cons g fs ih =>
    simp only [List.map_cons, List.nodup_cons] at hn
    cases j with
    | zero =>
      simp only [List.getElem?_cons_zero, Option.some.injEq] at h
      subst h
      rw [List.eraseIdx_cons_zero, List.find?_cons]
      by_cases hs : g.name = s
      · have : fs.find? (fun x => decide (x.name = s)) = none := by
          rw [List.find?_eq_none]
          intro x hx
          simp only [decide_eq_true_eq]
          exact fun h => hn.1 (by rw [hs, ← h]; exact List.mem_map.2 ⟨x, hx, rfl⟩)
        simp [hs, this]
      · simp [hs]
    | succ j =>
      simp only [List.getElem?_cons_succ] at h
      rw [List.eraseIdx_cons_succ, List.find?_cons, List.find?_cons]
      have hm : f ∈ fs := List.mem_of_getElem? h
      by_cases hs : g.name = s
      · have : f.name ≠ s := fun h2 => hn.1 (by rw [hs, ← h2]; exact List.mem_map.2 ⟨f, hm, rfl⟩)
        simp [hs, this]
      · simpa [hs] using ih hn.2 h

/-- Files in order. -/
def sortF (fs : List Fil) : List (ByteArray × List Cel) := fs.foldr (fun f l => putF l f.name f.cs) []
theorem sortF_sorted (fs : List Fil) : Sorted (sortF fs) := by
  induction fs with
  | nil => exact List.Pairwise.nil
  | cons f fs ih => exact sorted_put _ _ ih
theorem sortF_lk (fs : List Fil) (s : ByteArray) : lk (sortF fs) s = lkF fs s := by
  induction fs with
  | nil => rfl
  | cons f fs ih =>
    show lk (putF (sortF fs) f.name f.cs) s = _
    rw [lk_put _ _ _ (sortF_sorted fs), ih]
    unfold lkF
    rw [List.find?_cons]
    by_cases hs : f.name = s <;> simp [hs]
theorem sizeF_put {l : List (ByteArray × List Cel)} (hs : Sorted l) (s : ByteArray) (v : List Cel) : sizeF (putF l s v) + ((lk l s).getD []).length = sizeF l + v.length := by
  induction l with
  | nil => simp [putF, sizeF, lk]
  | cons x l ih =>
    obtain ⟨a, u⟩ := x
    have hs' := hs
    rw [Sorted, List.pairwise_cons] at hs
    unfold putF
    rw [lk_cons]
    split
    · simp only [sizeF, List.map_cons, List.sum_cons, Option.getD_some]
      omega
    · rename_i hne
      split
      · rename_i hlt
        have : lk l s = none := lk_none_of_lt fun y hy => ltN_trans hlt (hs.1 y hy)
        rw [this]
        simp only [sizeF, List.map_cons, List.sum_cons, Option.getD_none, List.length_nil]
        omega
      · have := ih hs.2
        simp only [sizeF, List.map_cons, List.sum_cons] at this ⊢
        omega
theorem sizeF_del {l : List (ByteArray × List Cel)} (s : ByteArray) : sizeF (delF l s) ≤ sizeF l := by
  induction l with
  | nil => simp [delF]
  | cons x l ih =>
    unfold delF at ih ⊢
    rw [List.filter_cons]
    split
    · simp only [sizeF, List.map_cons, List.sum_cons] at ih ⊢; omega
    · simp only [sizeF, List.map_cons, List.sum_cons] at ih ⊢; omega
theorem sortF_size {fs : List Fil} (hn : (fs.map (·.name)).Nodup) : sizeF (sortF fs) = total fs := by
  induction fs with
  | nil => rfl
  | cons f fs ih =>
    simp only [List.map_cons, List.nodup_cons] at hn
    have h1 := sizeF_put (sortF_sorted fs) f.name f.cs
    have h2 : lk (sortF fs) f.name = none := by
      rw [sortF_lk]
      unfold lkF
      rw [Option.map_eq_none_iff, List.find?_eq_none]
      intro x hx
      simp only [decide_eq_true_eq]
      exact fun h => hn.1 (by rw [← h]; exact List.mem_map.2 ⟨x, hx, rfl⟩)
    rw [h2] at h1
    show sizeF (putF (sortF fs) f.name f.cs) = _
    have h3 := ih hn.2
    simp only [Option.getD_none, List.length_nil, Fil.cs, List.length_map] at h1
    simp only [total, List.map_cons, List.sum_cons] at h3 ⊢
    unfold Fil.cs
    omega

section
variable {A : Dk} {es : Array MapEntry} {clock : Nat} {fs : List Fil}
theorem View.files (h : View A es clock fs) : sortF fs = A.files := sorted_ext (sortF_sorted fs) h.fine.sorted fun s => by rw [sortF_lk, h.same]
theorem View.total (h : View A es clock fs) : total fs = sizeF A.files := by rw [← h.files, sortF_size h.map.2.2.1]
theorem View.mem (h : View A es clock fs) {f : Fil} (hf : f ∈ fs) : (f.name, f.cs) ∈ A.files := by
  obtain ⟨j, hj⟩ := List.getElem?_of_mem hf
  exact lk_mem (by rw [← h.same, lkF_at h.map.2.2.1 hj])
theorem View.cel_fine (h : View A es clock fs) {f : Fil} (hf : f ∈ fs) {x : Nat × Cel} (hx : x ∈ f.cels) : x.2.Fine :=
  h.fine.cels _ (h.mem hf) x.2 (List.mem_map.2 ⟨x, hx, rfl⟩)
theorem View.good (h : View A es clock fs) : Good fs := fun f hf x hx => h.cel_fine hf hx
theorem View.nodup (h : View A es clock fs) : (fs.map (·.name)).Nodup := h.map.2.2.1
theorem View.size_le (h : View A es clock fs) : sizeF A.files ≤ 100000 := by
  have h1 := h.fine.fits
  have h2 := h.fine.room
  omega
theorem View.fuel (h : View A es clock fs) (n : Int) (hn : -1 ≤ n ∧ n ≤ 9223372036854775807) : View { A with fuse := n } es clock fs :=
  ⟨h.map, h.same, ⟨h.fine.sorted, h.fine.named, h.fine.cels, h.fine.room, hn, h.fine.fits⟩⟩
theorem View.burnt (h : View A es clock fs) : View A.burnt es clock fs := h.fuel _ (by
  have := h.fine.fuse
  unfold burnI
  split <;> simp <;> omega)
theorem Dk.Fine.set (h : A.Fine) {s : ByteArray} {l : List Cel} (hs : namedB s = true) (hl : l ≠ []) (hc : ∀ c ∈ l, c.Fine) (hz : sizeF (putF A.files s l) ≤ A.room) : (A.set s l).Fine :=
  ⟨sorted_put _ _ h.sorted, fun x hx => by
    rcases mem_put hx with rfl | hx
    · exact ⟨hs, hl⟩
    · exact h.named x hx, fun x hx => by
    rcases mem_put hx with rfl | hx
    · exact hc
    · exact h.cels x hx, h.room, h.fuse, hz⟩
theorem View.set (h : View A es clock fs) {j : Nat} {f : Fil} (hj : fs[j]? = some f) {v : Value} {cels : List (Nat × Cel)} (hl : cels ≠ []) (hc : ∀ x ∈ cels, x.2.Fine) (hz : sizeF A.files + cels.length ≤ A.room + f.cels.length) :
    View (A.set f.name (cels.map (·.2))) (es.modify j fun e => { e with key := .string f.name, val := v }) clock (fs.set j ⟨f.name, v, cels⟩) := by
  have hlk : lk A.files f.name = some f.cs := by rw [← h.same, lkF_at h.nodup hj]
  refine ⟨h.map.set (f' := ⟨f.name, v, cels⟩) hj rfl, fun s => ?_, h.fine.set (h.fine.named _ (h.mem (List.mem_of_getElem? hj))).1 (by simpa using hl) (fun c hcm => ?_) ?_⟩
  · rw [lkF_set (f' := ⟨f.name, v, cels⟩) h.nodup hj rfl]
    show _ = lk (putF A.files f.name _) s
    rw [lk_put _ _ _ h.fine.sorted, h.same]
    rfl
  · obtain ⟨x, hx, rfl⟩ := List.mem_map.1 hcm
    exact hc x hx
  · have := sizeF_put h.fine.sorted f.name (cels.map (·.2))
    rw [hlk] at this
    simp only [Option.getD_some, Fil.cs, List.length_map] at this
    omega
theorem View.push (h : View A es clock fs) {s : ByteArray} (hs : namedB s = true) (hn : lk A.files s = none) {v : Value} {cels : List (Nat × Cel)} (hl : cels ≠ []) (hc : ∀ x ∈ cels, x.2.Fine) (hz : sizeF A.files + cels.length ≤ A.room) (hsz : s.size ≤ maxLen) :
    View (A.set s (cels.map (·.2))) (es.push ⟨.string s, v, clock⟩) (clock + 1) (fs ++ [⟨s, v, cels⟩]) := by
  have hno : ∀ x ∈ fs, x.name ≠ s := lkF_none (by rw [h.same, hn])
  refine ⟨h.map.push (f := ⟨s, v, cels⟩) hno hsz, fun t => ?_, h.fine.set hs (by simpa using hl) (fun c hcm => ?_) ?_⟩
  · rw [lkF_push (f := ⟨s, v, cels⟩) hno]
    show _ = lk (putF A.files s _) t
    rw [lk_put _ _ _ h.fine.sorted, h.same]
    rfl
  · obtain ⟨x, hx, rfl⟩ := List.mem_map.1 hcm
    exact hc x hx
  · have := sizeF_put h.fine.sorted s (cels.map (·.2))
    rw [hn] at this
    simp only [Option.getD_none, List.length_nil, List.length_map] at this
    omega
theorem View.erase (h : View A es clock fs) {j : Nat} {f : Fil} (hj : fs[j]? = some f) : View { A with files := delF A.files f.name } (es.eraseIdxIfInBounds j) clock (fs.eraseIdx j) := by
  refine ⟨h.map.erase j (List.getElem?_eq_some_iff.1 hj).1, fun s => ?_, ⟨sorted_del _ h.fine.sorted, fun x hx => h.fine.named x (List.mem_filter.1 hx).1, fun x hx => h.fine.cels x (List.mem_filter.1 hx).1, h.fine.room, h.fine.fuse, ?_⟩⟩
  · rw [lkF_erase h.nodup hj, h.same]
    show _ = lk (delF A.files f.name) s
    rw [lk_del]
  · have h1 := h.fine.fits
    have h2 := sizeF_del (l := A.files) f.name
    show ((sizeF (delF A.files f.name) : Nat) : Int) ≤ A.room
    omega
end
end Go.Proofs.Ytgdcdcacccaanaa
