/- Texts of one claim, one behind the other: DiskR, DiskE, DiskG, DiskW, DiskH, DiskX, DiskY, Reg, DiskZ, DiskZ1, DiskZ2. -/
import Derived.Test.YtnpinegpajbkeaaGreatDoorRi1
import Derived.Maps.RangeRun
import Derived.OrdersHeld
import Derived.RegionTactic
import Derived.OrdersIn
import Derived.Laws.BitsLemmas
import Derived.RangeFuncCalls
import Derived.TacticsIn
set_option linter.unusedSimpArgs false
set_option linter.unusedVariables false
namespace Go.Proofs.YtnpinegpajbkeaaGreatDoor
open Go.RowKit HP
def readPost (E : Env) (q : HP) (r : Option (Nat × Cel)) (e : Ending) (w' : World) : Prop :=
  match r with
  | none => e = .returned (.tuple #[.slice none 0 0, .int .i64 30]) ∧ Sat E w' q
  | some x => ∃ v, e = .returned (.tuple #[v, .int .i64 0]) ∧ Sat E w' (HP.row 5 1 v 128 (b8s x.2.read) * q)
set_option maxHeartbeats 1000000 in
set_option maxRecDepth 100000 in
theorem disk_read (E : Env) (q : HP) (d : Nat) (room fuse : Int) (m : Nat) (es : Array MapEntry) (clock : Nat) (fs : List Fil) (name : ByteArray) (i : Int) (w : World) (hn : name.size ≤ maxLen) (hm : MapOf es clock fs) (hg : Good fs) (hw : Sat E w (HP.dk d room fuse m es clock fs * q)) :
    Calls Tryz.prog 36 #[.pointer (some ⟨d, 0, none⟩), .string name, .int .i64 i] w (readPost E (HP.dk d room fuse m es clock fs * q) (celAt fs name i)) := by
  go_enter Tryz.func36, Tryz.ntmps36
  go_wp2_with fail
  have h1 : Sat E w (HP.dsk d room fuse m * (HP.pt m (.map es clock) * (HP.all (fs.map HP.fil) * q))) := hw.perm (by unfold HP.dk; ac_rfl)
  refine (disk_none E _ d room fuse m w h1).mono ?_
  rintro e w1 ⟨rfl, rfl⟩
  clear h1
  go_wp2_with fail
  refine (disk_at E q d room fuse m es clock fs name i _ hn hm hw).mono ?_
  rintro e w2 ⟨rfl, rfl⟩
  rw [cellAt_eq]
  cases hx : celAt fs name i with
  | none =>
    have HT : Aside (readPost E (HP.dk d room fuse m es clock fs * q) (celAt fs name i) (.returned (.tuple #[.slice none 0 0, .int .i64 30])) w2) := ⟨by rw [hx]; exact ⟨rfl, hw⟩⟩
    clear hw hx hm hg
    go_wp2
    go_ret2
    exact HT.out
  | some x =>
    obtain ⟨f, hf, hxf⟩ := celAt_mem hx
    obtain ⟨r, hr⟩ := Sat.cel_of hw hf hxf
    have hlen := (hg f hf x hxf).1
    obtain ⟨bk, c⟩ := x
    have hcells : Cells w2 (some ⟨bk, 0, none⟩) (b8s c.read) := fun j u hj => by
      refine ⟨_, rfl, ?_⟩
      rw [addr_add, Nat.zero_add]
      have := Sat.cell (E := E) (q := r) (w := w2) (b := bk) (c := c.vals.toArray) hr j
      rw [this]
      have hjl := (List.getElem?_eq_some_iff.1 hj).1
      simp only [List.getElem?_toArray, Cel.vals]
      rw [List.getElem?_append_left hjl, hj]
    have HX := Aside.mk hx
    have HH := Aside.mk (And.intro hw (And.intro hcells hlen))
    clear hw hx hm hg hr hf hxf hcells hlen
    go_wp2_with fail
    refine (cloneBytes_ok E _ (some ⟨bk, 0, none⟩) c.read 128 128 _ HH.out.2.2 (by omega) HH.out.1 HH.out.2.1).mono ?_
    rintro e w3 ⟨v, rfl, hw3⟩
    have HT : Aside (readPost E (HP.dk d room fuse m es clock fs * q) (celAt fs name i) (.returned (.tuple #[v, .int .i64 0])) w3) := ⟨by
      rw [HX.out]; exact ⟨v, rfl, hw3⟩⟩
    clear HH HX hw3
    go_wp2
    go_ret2
    exact HT.out
def valLen : Value → Nat
  | .slice _ n _ => n
  | _ => 0
def sumLen (L : List MapEntry) : Nat := (L.map fun x => valLen x.val).sum
theorem filter_born_none (L : List MapEntry) (b : Nat) (h : b ∉ L.map (·.born)) : L.filter (fun x => x.born != b) = L := by
  rw [List.filter_eq_self]
  intro x hx
  have : x.born ≠ b := fun he => h (List.mem_map.2 ⟨x, hx, he⟩)
  simpa using this
theorem sum_step {L : List MapEntry} (hn : (L.map (·.born)).Nodup) {e : MapEntry} (he : e ∈ L) : sumLen L = valLen e.val + sumLen (L.filter fun x => x.born != e.born) ∧ (L.filter fun x => x.born != e.born).length + 1 = L.length := by
  induction L with
  | nil => cases he
  | cons x L ih =>
    simp only [List.map_cons, List.nodup_cons] at hn
    rcases List.mem_cons.1 he with rfl | he
    · rw [List.filter_cons_of_neg (by simp), filter_born_none L _ hn.1]
      exact ⟨by simp [sumLen], by simp⟩
    · obtain ⟨h1, h2⟩ := ih hn.2 he
      have hne : x.born ≠ e.born := fun h => hn.1 (by rw [h]; exact List.mem_map.2 ⟨e, he, rfl⟩)
      rw [List.filter_cons_of_pos (by simpa using hne)]
      refine ⟨?_, by simp; omega⟩
      simp only [sumLen, List.map_cons, List.sum_cons] at h1 ⊢
      omega
def leftL (es : Array MapEntry) (seen : Array Nat) : List MapEntry := es.toList.filter fun x => !seen.contains x.born
theorem left_push (es : Array MapEntry) (seen : Array Nat) (b : Nat) : leftL es (seen.push b) = (leftL es seen).filter fun x => x.born != b := by
  unfold leftL
  rw [List.filter_filter]
  apply List.filter_congr
  intro x _
  simp only [Array.contains_push, Bool.not_or]
  rw [Bool.and_comm]
  rfl
theorem Sat.setBlock {E : Env} {p : HP} {w : World} {b : Nat} {o : Obj} (h : Sat E w (HP.pt b o * p)) (o' : Obj) : Sat E (ChangeMaps.setBlock w b o') (HP.pt b o' * p) := by
  have hlt := h.lt
  refine h.turn ⟨rfl, rfl, rfl, by simp [ChangeMaps.setBlock]⟩ (by simp [ChangeMaps.setBlock, hlt]) fun k hk _ => ?_
  simp only [ChangeMaps.setBlock]
  rw [Array.getElem?_setIfInBounds_ne (by omega)]
def total (fs : List Fil) : Nat := (fs.map fun f => f.cels.length).sum
theorem val_len {E : Env} {q : HP} {w : World} {d : Nat} {room fuse : Int} {m : Nat} {es : Array MapEntry} {clock : Nat} {fs : List Fil} (hw : Sat E w (HP.dk d room fuse m es clock fs * q)) {f : Fil} (hf : f ∈ fs) : valLen f.val = f.cels.length := by
  obtain ⟨j, hj⟩ := List.getElem?_of_mem hf
  have h1 : Sat E w (HP.all (fs.map HP.fil) * (HP.dsk d room fuse m * (HP.pt m (.map es clock) * q))) := hw.perm (by unfold HP.dk; ac_rfl)
  rw [all_take (l := fs.map HP.fil) (j := j) (p := HP.fil f) (by rw [List.getElem?_map, hj]; rfl)] at h1
  have h2 : Sat E w (HP.row 145 1 f.val f.cels.length f.ptrs * (HP.all (f.cels.map fun x => HP.cel x.1 x.2) * (HP.all ((fs.map HP.fil).eraseIdx j) * (HP.dsk d room fuse m * (HP.pt m (.map es clock) * q))))) := h1.perm (by unfold HP.fil; ac_rfl)
  obtain ⟨A, c, hv, -, -⟩ := h2.row_slice
  rw [hv]; rfl
theorem sum_total {E : Env} {q : HP} {w : World} {d : Nat} {room fuse : Int} {m : Nat} {es : Array MapEntry} {clock : Nat} {fs : List Fil} (hm : MapOf es clock fs) (hw : Sat E w (HP.dk d room fuse m es clock fs * q)) : sumLen es.toList = total fs := by
  unfold sumLen total
  have h1 : (es.toList.map fun x => valLen x.val) = fs.map fun f => valLen f.val := by
    have := congrArg (List.map fun y : Value × Value => valLen y.2) hm.2.1
    simpa [List.map_map, Function.comp_def] using this
  rw [h1]
  congr 1
  exact List.map_congr_left fun f hf => val_len hw hf
theorem leftOf_eq (es : Array MapEntry) (seen : Array Nat) : (leftOf es seen).toList = leftL es seen := by
  simp [leftOf, leftL, Array.toList_filter]
end Go.Proofs.YtnpinegpajbkeaaGreatDoor
namespace Go.Proofs.YtnpinegpajbkeaaGreatDoor
open Go.RowKit HP
def Fil.cs (f : Fil) : List Cel := f.cels.map (·.2)
def lkF (fs : List Fil) (s : ByteArray) : Option (List Cel) := (fs.find? fun f => decide (f.name = s)).map Fil.cs
structure View (A : Dk) (es : Array MapEntry) (clock : Nat) (fs : List Fil) : Prop where
  map : MapOf es clock fs
  same : ∀ s, lkF fs s = lk A.files s
  fine : A.Fine
def HP.disk (d : Nat) (A : Dk) : HP := HP.ex fun x : Nat × Array MapEntry × Nat × List Fil => HP.fact (View A x.2.1 x.2.2.1 x.2.2.2) * HP.dk d A.room A.fuse x.1 x.2.1 x.2.2.1 x.2.2.2
section
variable {E : Env} {q : HP} {w : World} {d m : Nat} {A : Dk} {es : Array MapEntry} {clock : Nat} {fs : List Fil}
theorem Sat.disk_open (h : Sat E w (HP.disk d A * q)) : ∃ m es clock fs, View A es clock fs ∧ Sat E w (HP.dk d A.room A.fuse m es clock fs * q) := by
  obtain ⟨⟨m, es, clock, fs⟩, h⟩ := h.ex_elim
  obtain ⟨hv, h⟩ := (h.perm (HP.mul_assoc _ _ _)).fact_elim
  exact ⟨m, es, clock, fs, hv, h⟩
theorem Sat.disk_close (hv : View A es clock fs) (h : Sat E w (HP.dk d A.room A.fuse m es clock fs * q)) : Sat E w (HP.disk d A * q) := by
  refine Sat.ex_intro (m, es, clock, fs) ?_
  exact (Sat.fact_intro hv h).perm (HP.mul_assoc _ _ _).symm
theorem Sat.disk_fine (h : Sat E w (HP.disk d A * q)) : A.Fine := by
  obtain ⟨m, es, clock, fs, hv, -⟩ := h.disk_open
  exact hv.fine
end
theorem lkF_at {fs : List Fil} (hn : (fs.map (·.name)).Nodup) {j : Nat} {f : Fil} (h : fs[j]? = some f) : lkF fs f.name = some f.cs := by
  unfold lkF
  rw [find_at hn h]; rfl
theorem lkF_none {fs : List Fil} {s : ByteArray} (h : lkF fs s = none) : ∀ f ∈ fs, f.name ≠ s := by
  intro f hf he
  unfold lkF at h
  rw [Option.map_eq_none_iff, List.find?_eq_none] at h
  have := h f hf
  simp [he] at this
theorem find_set {fs : List Fil} (hn : (fs.map (·.name)).Nodup) {j : Nat} {f f' : Fil} (h : fs[j]? = some f) (he : f'.name = f.name) (s : ByteArray) :
    (fs.set j f').find? (fun x => decide (x.name = s)) = if f.name = s then some f' else fs.find? (fun x => decide (x.name = s)) := by
  induction fs generalizing j with
  | nil => simp at h
  | cons g fs ih =>
    simp only [List.map_cons, List.nodup_cons] at hn
    cases j with
    | zero =>
      simp only [List.getElem?_cons_zero, Option.some.injEq] at h
      subst h
      rw [List.set_cons_zero, List.find?_cons, List.find?_cons]
      by_cases hs : g.name = s
      · simp [he, hs]
      · simp [he, hs]
    | succ j =>
      simp only [List.getElem?_cons_succ] at h
      rw [List.set_cons_succ, List.find?_cons, List.find?_cons, ih hn.2 h]
      have hm : f ∈ fs := List.mem_of_getElem? h
      by_cases hs : g.name = s
      · have : f.name ≠ s := fun h2 => hn.1 (by rw [hs, ← h2]; exact List.mem_map.2 ⟨f, hm, rfl⟩)
        simp [hs, this]
      · simp [hs]
theorem lkF_set {fs : List Fil} (hn : (fs.map (·.name)).Nodup) {j : Nat} {f f' : Fil} (h : fs[j]? = some f) (he : f'.name = f.name) (s : ByteArray) :
    lkF (fs.set j f') s = if f.name = s then some f'.cs else lkF fs s := by
  unfold lkF
  rw [find_set hn h he]
  split <;> rfl
theorem lkF_push {fs : List Fil} {f : Fil} (hn : ∀ x ∈ fs, x.name ≠ f.name) (s : ByteArray) : lkF (fs ++ [f]) s = if f.name = s then some f.cs else lkF fs s := by
  unfold lkF
  rw [List.find?_append]
  by_cases hs : f.name = s
  · have : fs.find? (fun x => decide (x.name = s)) = none := by
      rw [List.find?_eq_none]
      intro x hx
      simp only [decide_eq_true_eq]
      exact fun h => hn x hx (h.trans hs.symm)
    rw [this]
    simp [hs]
  · simp [hs]
theorem lkF_erase {fs : List Fil} (hn : (fs.map (·.name)).Nodup) {j : Nat} {f : Fil} (h : fs[j]? = some f) (s : ByteArray) : lkF (fs.eraseIdx j) s = if f.name = s then none else lkF fs s := by
  unfold lkF
  induction fs generalizing j with
  | nil => simp at h
  | cons g fs ih =>
    simp only [List.map_cons, List.nodup_cons] at hn
    cases j with
    | zero =>
      simp only [List.getElem?_cons_zero, Option.some.injEq] at h
      subst h
      rw [List.eraseIdx_cons_zero, List.find?_cons]
      by_cases hs : g.name = s
      · have : fs.find? (fun x => decide (x.name = s)) = none := by
          rw [List.find?_eq_none]
          intro x hx
          simp only [decide_eq_true_eq]
          exact fun h => hn.1 (by rw [hs, ← h]; exact List.mem_map.2 ⟨x, hx, rfl⟩)
        simp [hs, this]
      · simp [hs]
    | succ j =>
      simp only [List.getElem?_cons_succ] at h
      rw [List.eraseIdx_cons_succ, List.find?_cons, List.find?_cons]
      have hm : f ∈ fs := List.mem_of_getElem? h
      by_cases hs : g.name = s
      · have : f.name ≠ s := fun h2 => hn.1 (by rw [hs, ← h2]; exact List.mem_map.2 ⟨f, hm, rfl⟩)
        simp [hs, this]
      · simpa [hs] using ih hn.2 h
def sortF (fs : List Fil) : List (ByteArray × List Cel) := fs.foldr (fun f l => putF l f.name f.cs) []
theorem sortF_sorted (fs : List Fil) : Sorted (sortF fs) := by
  induction fs with
  | nil => exact List.Pairwise.nil
  | cons f fs ih => exact sorted_put _ _ ih
theorem sortF_lk (fs : List Fil) (s : ByteArray) : lk (sortF fs) s = lkF fs s := by
  induction fs with
  | nil => rfl
  | cons f fs ih =>
    show lk (putF (sortF fs) f.name f.cs) s = _
    rw [lk_put _ _ _ (sortF_sorted fs), ih]
    unfold lkF
    rw [List.find?_cons]
    by_cases hs : f.name = s <;> simp [hs]
theorem sizeF_put {l : List (ByteArray × List Cel)} (hs : Sorted l) (s : ByteArray) (v : List Cel) : sizeF (putF l s v) + ((lk l s).getD []).length = sizeF l + v.length := by
  induction l with
  | nil => simp [putF, sizeF, lk]
  | cons x l ih =>
    obtain ⟨a, u⟩ := x
    have hs' := hs
    rw [Sorted, List.pairwise_cons] at hs
    unfold putF
    rw [lk_cons]
    split
    · simp only [sizeF, List.map_cons, List.sum_cons, Option.getD_some]
      omega
    · rename_i hne
      split
      · rename_i hlt
        have : lk l s = none := lk_none_of_lt fun y hy => ltN_trans hlt (hs.1 y hy)
        rw [this]
        simp only [sizeF, List.map_cons, List.sum_cons, Option.getD_none, List.length_nil]
        omega
      · have := ih hs.2
        simp only [sizeF, List.map_cons, List.sum_cons] at this ⊢
        omega
theorem sizeF_del {l : List (ByteArray × List Cel)} (s : ByteArray) : sizeF (delF l s) ≤ sizeF l := by
  induction l with
  | nil => simp [delF]
  | cons x l ih =>
    unfold delF at ih ⊢
    rw [List.filter_cons]
    split
    · simp only [sizeF, List.map_cons, List.sum_cons] at ih ⊢; omega
    · simp only [sizeF, List.map_cons, List.sum_cons] at ih ⊢; omega
theorem sortF_size {fs : List Fil} (hn : (fs.map (·.name)).Nodup) : sizeF (sortF fs) = total fs := by
  induction fs with
  | nil => rfl
  | cons f fs ih =>
    simp only [List.map_cons, List.nodup_cons] at hn
    have h1 := sizeF_put (sortF_sorted fs) f.name f.cs
    have h2 : lk (sortF fs) f.name = none := by
      rw [sortF_lk]
      unfold lkF
      rw [Option.map_eq_none_iff, List.find?_eq_none]
      intro x hx
      simp only [decide_eq_true_eq]
      exact fun h => hn.1 (by rw [← h]; exact List.mem_map.2 ⟨x, hx, rfl⟩)
    rw [h2] at h1
    show sizeF (putF (sortF fs) f.name f.cs) = _
    have h3 := ih hn.2
    simp only [Option.getD_none, List.length_nil, Fil.cs, List.length_map] at h1
    simp only [total, List.map_cons, List.sum_cons] at h3 ⊢
    unfold Fil.cs
    omega
section
variable {A : Dk} {es : Array MapEntry} {clock : Nat} {fs : List Fil}
theorem View.files (h : View A es clock fs) : sortF fs = A.files := sorted_ext (sortF_sorted fs) h.fine.sorted fun s => by rw [sortF_lk, h.same]
theorem View.total (h : View A es clock fs) : total fs = sizeF A.files := by rw [← h.files, sortF_size h.map.2.2.1]
theorem View.mem (h : View A es clock fs) {f : Fil} (hf : f ∈ fs) : (f.name, f.cs) ∈ A.files := by
  obtain ⟨j, hj⟩ := List.getElem?_of_mem hf
  exact lk_mem (by rw [← h.same, lkF_at h.map.2.2.1 hj])
theorem View.cel_fine (h : View A es clock fs) {f : Fil} (hf : f ∈ fs) {x : Nat × Cel} (hx : x ∈ f.cels) : x.2.Fine :=
  h.fine.cels _ (h.mem hf) x.2 (List.mem_map.2 ⟨x, hx, rfl⟩)
theorem View.good (h : View A es clock fs) : Good fs := fun f hf x hx => h.cel_fine hf hx
theorem View.nodup (h : View A es clock fs) : (fs.map (·.name)).Nodup := h.map.2.2.1
theorem View.size_le (h : View A es clock fs) : sizeF A.files ≤ 100000 := by
  have h1 := h.fine.fits
  have h2 := h.fine.room
  omega
theorem View.fuel (h : View A es clock fs) (n : Int) (hn : -1 ≤ n ∧ n ≤ 9223372036854775807) : View { A with fuse := n } es clock fs :=
  ⟨h.map, h.same, ⟨h.fine.sorted, h.fine.named, h.fine.cels, h.fine.room, hn, h.fine.fits⟩⟩
theorem View.burnt (h : View A es clock fs) : View A.burnt es clock fs := h.fuel _ (by
  have := h.fine.fuse
  unfold burnI
  split <;> simp <;> omega)
theorem Dk.Fine.set (h : A.Fine) {s : ByteArray} {l : List Cel} (hs : namedB s = true) (hl : l ≠ []) (hc : ∀ c ∈ l, c.Fine) (hz : sizeF (putF A.files s l) ≤ A.room) : (A.set s l).Fine :=
  ⟨sorted_put _ _ h.sorted, fun x hx => by
    rcases mem_put hx with rfl | hx
    · exact ⟨hs, hl⟩
    · exact h.named x hx, fun x hx => by
    rcases mem_put hx with rfl | hx
    · exact hc
    · exact h.cels x hx, h.room, h.fuse, hz⟩
theorem View.set (h : View A es clock fs) {j : Nat} {f : Fil} (hj : fs[j]? = some f) {v : Value} {cels : List (Nat × Cel)} (hl : cels ≠ []) (hc : ∀ x ∈ cels, x.2.Fine) (hz : sizeF A.files + cels.length ≤ A.room + f.cels.length) :
    View (A.set f.name (cels.map (·.2))) (es.modify j fun e => { e with key := .string f.name, val := v }) clock (fs.set j ⟨f.name, v, cels⟩) := by
  have hlk : lk A.files f.name = some f.cs := by rw [← h.same, lkF_at h.nodup hj]
  refine ⟨h.map.set (f' := ⟨f.name, v, cels⟩) hj rfl, fun s => ?_, h.fine.set (h.fine.named _ (h.mem (List.mem_of_getElem? hj))).1 (by simpa using hl) (fun c hcm => ?_) ?_⟩
  · rw [lkF_set (f' := ⟨f.name, v, cels⟩) h.nodup hj rfl]
    show _ = lk (putF A.files f.name _) s
    rw [lk_put _ _ _ h.fine.sorted, h.same]
    rfl
  · obtain ⟨x, hx, rfl⟩ := List.mem_map.1 hcm
    exact hc x hx
  · have := sizeF_put h.fine.sorted f.name (cels.map (·.2))
    rw [hlk] at this
    simp only [Option.getD_some, Fil.cs, List.length_map] at this
    omega
theorem View.push (h : View A es clock fs) {s : ByteArray} (hs : namedB s = true) (hn : lk A.files s = none) {v : Value} {cels : List (Nat × Cel)} (hl : cels ≠ []) (hc : ∀ x ∈ cels, x.2.Fine) (hz : sizeF A.files + cels.length ≤ A.room) (hsz : s.size ≤ maxLen) :
    View (A.set s (cels.map (·.2))) (es.push ⟨.string s, v, clock⟩) (clock + 1) (fs ++ [⟨s, v, cels⟩]) := by
  have hno : ∀ x ∈ fs, x.name ≠ s := lkF_none (by rw [h.same, hn])
  refine ⟨h.map.push (f := ⟨s, v, cels⟩) hno hsz, fun t => ?_, h.fine.set hs (by simpa using hl) (fun c hcm => ?_) ?_⟩
  · rw [lkF_push (f := ⟨s, v, cels⟩) hno]
    show _ = lk (putF A.files s _) t
    rw [lk_put _ _ _ h.fine.sorted, h.same]
    rfl
  · obtain ⟨x, hx, rfl⟩ := List.mem_map.1 hcm
    exact hc x hx
  · have := sizeF_put h.fine.sorted s (cels.map (·.2))
    rw [hn] at this
    simp only [Option.getD_none, List.length_nil, List.length_map] at this
    omega
theorem View.erase (h : View A es clock fs) {j : Nat} {f : Fil} (hj : fs[j]? = some f) : View { A with files := delF A.files f.name } (es.eraseIdxIfInBounds j) clock (fs.eraseIdx j) := by
  refine ⟨h.map.erase j (List.getElem?_eq_some_iff.1 hj).1, fun s => ?_, ⟨sorted_del _ h.fine.sorted, fun x hx => h.fine.named x (List.mem_filter.1 hx).1, fun x hx => h.fine.cels x (List.mem_filter.1 hx).1, h.fine.room, h.fine.fuse, ?_⟩⟩
  · rw [lkF_erase h.nodup hj, h.same]
    show _ = lk (delF A.files f.name) s
    rw [lk_del]
  · have h1 := h.fine.fits
    have h2 := sizeF_del (l := A.files) f.name
    show ((sizeF (delF A.files f.name) : Nat) : Int) ≤ A.room
    omega
end
end Go.Proofs.YtnpinegpajbkeaaGreatDoor
namespace Go.Proofs.YtnpinegpajbkeaaGreatDoor
open Go.RowKit HP
theorem val_slice {E : Env} {q : HP} {w : World} {d : Nat} {room fuse : Int} {m : Nat} {es : Array MapEntry} {clock : Nat} {fs : List Fil} (hw : Sat E w (HP.dk d room fuse m es clock fs * q)) {f : Fil} (hf : f ∈ fs) : ∃ A c, f.val = .slice A f.cels.length c := by
  obtain ⟨j, hj⟩ := List.getElem?_of_mem hf
  have h1 : Sat E w (HP.all (fs.map HP.fil) * (HP.dsk d room fuse m * (HP.pt m (.map es clock) * q))) := hw.perm (by unfold HP.dk; ac_rfl)
  rw [all_take (l := fs.map HP.fil) (j := j) (p := HP.fil f) (by rw [List.getElem?_map, hj]; rfl)] at h1
  have h2 : Sat E w (HP.row 145 1 f.val f.cels.length f.ptrs * (HP.all (f.cels.map fun x => HP.cel x.1 x.2) * (HP.all ((fs.map HP.fil).eraseIdx j) * (HP.dsk d room fuse m * (HP.pt m (.map es clock) * q))))) := h1.perm (by unfold HP.fil; ac_rfl)
  obtain ⟨A, c, hv, -, -⟩ := h2.row_slice
  exact ⟨A, c, hv⟩
theorem run_range_map {P : Program} {t k e : TypeId} (ht : P.underlying t = some (.map k e)) {w : World} {m : Nat} {es : Array MapEntry} {clock : Nat} (hb : w.heap[m]? = some (.map es clock)) :
    (Instr.range t (.map (some m))).run P w = .ok (.pointer (some ⟨w.heap.size, 0, none⟩)) (w.alloc (.mapIter (some m) clock #[] clock)) := by
  simp [Instr.range, run_underlying ht, MapKept.run_getObj_map hb, Result.andThen]
set_option maxHeartbeats 1000000 in
set_option maxRecDepth 100000 in
theorem disk_free (E : Env) (q : HP) (d : Nat) (room fuse : Int) (m : Nat) (es : Array MapEntry) (clock : Nat) (fs : List Fil) (w : World) (hm : MapOf es clock fs) (hr : 0 ≤ room ∧ room ≤ 100000) (ht : total fs ≤ 1000000) (hw : Sat E w (HP.dk d room fuse m es clock fs * q)) :
    Calls Tryz.prog 86 #[.pointer (some ⟨d, 0, none⟩)] w fun e w' => e = .returned (.int .i64 (room - total fs)) ∧ Sat E w' (HP.dk d room fuse m es clock fs * q) := by
  have hst := sum_total hm hw
  go_enter Tryz.func86, Tryz.ntmps86
  go_wp2_with fail
  have h1 : Sat E w (HP.dsk d room fuse m * (HP.pt m (.map es clock) * (HP.all (fs.map HP.fil) * q))) := hw.perm (by unfold HP.dk; ac_rfl)
  refine (disk_none E _ d room fuse m w h1).mono ?_
  rintro e w1 ⟨rfl, rfl⟩
  have c0 := h1.cell 0
  have c1 := h1.cell 1
  simp only [List.getElem?_toArray, List.getElem?_cons_zero, List.getElem?_cons_succ] at c0 c1
  have hrg := run_range_map (P := Tryz.prog) (t := 141) Tryz.underlying141 h1.s2.get
  have HS0 := Aside.mk (hw.alloc (.mapIter (some m) clock #[] clock))
  have HM := Aside.mk (And.intro hm hst)
  have HV : Aside (∀ f ∈ fs, ∃ A c, f.val = .slice A f.cels.length c) := ⟨fun f hf => val_slice hw hf⟩
  clear hw h1 hm hst
  go_wp2_with fail
  have HRT : Aside (∀ f ∈ fs, ∃ A c, f.val = .slice A f.cels.length c) := HV
  generalize w1.heap.size = g at *
  generalize World.alloc _ _ = w0 at *
  go_loopw [3] (fun x3 wr => ∃ (n : Int) (seen : Array Nat) (c0 : Nat), x3 = .int .i64 n ∧ clock ≤ c0 ∧ n ≤ room ∧ Aside (n - sumLen (leftL es seen) = room - total fs) ∧ Aside (Sat E wr (HP.pt g (.mapIter (some m) clock seen c0) * (HP.dk d room fuse m es clock fs * q))))
    (fun _ wr => match wr.heap[g]? with | some (.mapIter _ _ seen _) => (leftL es seen).length | _ => 0)
  case atStart => exact ⟨room, #[], clock, rfl, Nat.le_refl _, Int.le_refl _, ⟨by rw [← HM.out.2, show leftL es #[] = es.toList from List.filter_eq_self.2 (fun x _ => by simp)]⟩, HS0⟩
  case round =>
    clear HS0 hrg c0 c1
    obtain ⟨n, seen, c0, rfl, hc0, hnr, HN, HS⟩ := hrel
    have hg := HS.out.get
    have hb : wr.heap[m]? = some (.map es clock) := by
      have h1 : Sat E wr (HP.pt m (.map es clock) * (HP.pt g (.mapIter (some m) clock seen c0) * (HP.dsk d room fuse m * (HP.all (fs.map HP.fil) * q)))) := HS.out.perm (by unfold HP.dk; ac_rfl)
      exact h1.get
    rcases run_next_at (P := Tryz.prog) wr 0 g m clock c0 seen es clock hg hb HM.out.1.2.2.2.1 hc0 with ⟨hz, hnext⟩ | ⟨e, he, w2, hw2, hnext⟩
    · have hl : leftL es seen = [] := by rw [← leftOf_eq]; exact List.eq_nil_of_length_eq_zero (by simpa using hz)
      have HT : Aside (n = room - total fs ∧ Sat E wr (HP.dk d room fuse m es clock fs * q)) := ⟨by
        have := HN.out
        rw [hl] at this
        simp only [sumLen, List.map_nil, List.sum_nil] at this
        exact ⟨by omega, HS.out.right⟩⟩
      clear HN HS hg hb hz hl
      go_wp2
      go_ret
      exact ⟨ret_int HT.out.1, HT.out.2⟩
    · have he' : e ∈ leftL es seen := by rw [← leftOf_eq]; exact he
      have hes : e ∈ es.toList := (List.mem_filter.1 he').1
      have S2 : Sat E w2 (HP.pt g (.mapIter (some m) clock seen c0) * (HP.dk d room fuse m es clock fs * q)) := by
        rcases hw2 with rfl | rfl
        · exact HS.out
        · exact HS.out.drew
      have S3 := Sat.setBlock S2 (.mapIter (some m) clock (seen.push e.born) clock)
      have hb3 : (ChangeMaps.setBlock w2 g (.mapIter (some m) clock (seen.push e.born) clock)).heap[m]? = some (.map es clock) := by
        have h1 : Sat E _ (HP.pt m (.map es clock) * (HP.pt g (.mapIter (some m) clock (seen.push e.born) clock) * (HP.dsk d room fuse m * (HP.all (fs.map HP.fil) * q)))) := S3.perm (by unfold HP.dk; ac_rfl)
        exact h1.get
      have hent := run_entry_at (P := Tryz.prog) _ g m clock seen es clock e S3.get hb3 hes HM.out.1.2.2.2.2
      obtain ⟨f, hf, hfe⟩ : ∃ f ∈ fs, f.val = e.val := by
        have hmem : (e.key, e.val) ∈ es.toList.map fun x => (x.key, x.val) := List.mem_map.2 ⟨e, hes, rfl⟩
        rw [HM.out.1.2.1] at hmem
        obtain ⟨f, hf, hfe⟩ := List.mem_map.1 hmem
        simp only [Prod.mk.injEq] at hfe
        exact ⟨f, hf, hfe.2⟩
      obtain ⟨A, c, hv⟩ := HV.out f hf
      have hval : e.val = .slice A f.cels.length c := by rw [← hfe, hv]
      have hnd : ((leftL es seen).map (·.born)).Nodup := HM.out.1.2.2.2.2.sublist ((List.filter_sublist).map _)
      obtain ⟨hs1, hs2⟩ := sum_step hnd he'
      rw [← left_push] at hs1 hs2
      rw [hval] at hs1 hnext hent
      have HN2 : Aside (n - f.cels.length - sumLen (leftL es (seen.push e.born)) = room - total fs) := ⟨by
        have := HN.out
        simp only [valLen] at hs1
        omega⟩
      have hnb : -10000000 ≤ n - f.cels.length ∧ n ≤ 10000000 := by
        have := HN.out
        simp only [valLen] at hs1
        omega
      have HS3 := Aside.mk S3
      have HME : Aside ((leftL es (seen.push e.born)).length < (leftL es seen).length) := ⟨by omega⟩
      have HG1 : Aside (wr.heap[g]? = some (.mapIter (some m) clock seen c0)) := ⟨hg⟩
      clear HN HS hg hb hb3 hs1 hs2 hnd S2 S3 hv hfe hval hes he' he hf
      go_wp2
      go_roundw
      case rel => exact ⟨n - f.cels.length, seen.push e.born, clock, rfl, Nat.le_refl _, by omega, HN2, HS3⟩
      case measure =>
        have h8 := HS3.out.get
        rw [h8, HG1.out]
        exact HME.out
theorem le_sum_mem {l : List Nat} {n : Nat} (h : n ∈ l) : n ≤ l.sum := by
  induction l with
  | nil => cases h
  | cons x l ih =>
    rw [List.sum_cons]
    rcases List.mem_cons.1 h with rfl | h
    · omega
    · have := ih h; omega
theorem find_file {E : Env} {q : HP} {w : World} {d : Nat} {m : Nat} {A : Dk} {es : Array MapEntry} {clock : Nat} {fs : List Fil} (hv : View A es clock fs) (hw : Sat E w (HP.dk d A.room A.fuse m es clock fs * q)) (name : ByteArray) (hn : name.size ≤ maxLen) :
    ∃ (v : Value) (B : Option Addr) (c : Nat), v = .slice B (A.at name).length c ∧ (Instr.lookup 141 (.map (some m)) (.string name) false).run Tryz.prog w = .ok v w ∧ (Instr.lookup 141 (.map (some m)) (.string name) true).run Tryz.prog w = .ok (.tuple #[v, .bool (lk A.files name).isSome]) w ∧
      ((lk A.files name = none ∧ v = .slice none 0 0) ∨ ∃ (j : Nat) (f : Fil), fs[j]? = some f ∧ f.name = name ∧ f.val = v ∧ lk A.files name = some f.cs) := by
  rcases lookup_file hv.map hw name hn with ⟨h1, h2, h3⟩ | ⟨j, f, hj, hname, hf, h2, h3⟩
  · have hlk : lk A.files name = none := by rw [← hv.same]; unfold lkF; rw [h1]; rfl
    refine ⟨_, none, 0, ?_, h2, ?_, .inl ⟨hlk, rfl⟩⟩
    · simp [Dk.at, hlk]
    · rw [hlk]; exact h3
  · have hlk : lk A.files name = some f.cs := by rw [← hv.same]; unfold lkF; rw [hf]; rfl
    obtain ⟨B, c, hvl⟩ := val_slice hw (List.mem_of_getElem? hj)
    refine ⟨f.val, B, c, ?_, h2, ?_, .inr ⟨j, f, hj, hname, rfl, hlk⟩⟩
    · simp [Dk.at, hlk, hvl, Fil.cs]
    · rw [hlk]; exact h3
theorem burnt_dsk {E : Env} {q : HP} {w : World} {d m : Nat} {A : Dk} {es : Array MapEntry} {clock : Nat} {fs : List Fil} (h : Sat E w (HP.dsk d A.room (burnI A.fuse).1 m * (HP.pt m (.map es clock) * (HP.all (fs.map HP.fil) * q)))) :
    Sat E w (HP.dk d A.burnt.room A.burnt.fuse m es clock fs * q) := h.perm (by unfold HP.dk Dk.burnt; ac_rfl)
theorem dk_parts {E : Env} {q : HP} {w : World} {d m : Nat} {room fuse : Int} {es : Array MapEntry} {clock : Nat} {fs : List Fil} (h : Sat E w (HP.dk d room fuse m es clock fs * q)) :
    Sat E w (HP.dsk d room fuse m * (HP.pt m (.map es clock) * (HP.all (fs.map HP.fil) * q))) := h.perm (by unfold HP.dk; ac_rfl)
theorem at_le {A : Dk} (h : A.Fine) (s : ByteArray) : (A.at s).length ≤ sizeF A.files := by
  unfold Dk.at
  cases hl : lk A.files s with
  | none => simp
  | some l =>
    have hm := lk_mem hl
    simp only [Option.getD_some, sizeF]
    exact le_sum_mem (List.mem_map.2 ⟨_, hm, rfl⟩)
theorem at_small {A : Dk} (h : A.Fine) (s : ByteArray) : (A.at s).length ≤ 100000 := by
  have h1 := at_le h s
  have h2 := h.fits
  have h3 := h.room
  omega
set_option maxHeartbeats 1000000 in
set_option maxRecDepth 100000 in
theorem disk_write_arg (E : Env) (q : HP) (d : Nat) (A : Dk) (name : ByteArray) (i : Int) (Ab : Option Addr) (l : List Int) (n c : Nat) (w : World) (hn : name.size ≤ maxLen) (hl : l.length = n) (hs : n ≤ maxLen)
    (hbad : namedB name = false ∨ l.length ≠ 128 ∨ i < 0 ∨ (A.at name).length < i) (hw : Sat E w (HP.disk d A * q)) :
    Calls Tryz.prog 63 #[.pointer (some ⟨d, 0, none⟩), .string name, .int .i64 i, .slice Ab n c] w fun e w' => e = .returned (.int .i64 1) ∧ Sat E w' (HP.disk d A * q) := by
  obtain ⟨m, es, clock, fs, hv, hd⟩ := hw.disk_open
  have hsm := at_small hv.fine name
  unfold maxLen at hs
  clear hw
  go_enter Tryz.func63, Tryz.ntmps63
  go_wp2_with fail
  refine (disk_none E _ d _ _ m w (dk_parts hd)).mono ?_
  rintro e w1 ⟨rfl, rfl⟩
  have c1 := (dk_parts hd).cell 1
  simp only [List.getElem?_toArray, List.getElem?_cons_zero, List.getElem?_cons_succ] at c1
  obtain ⟨v, B, cc, hvB, hlook, -, -⟩ := find_file hv hd name hn
  rw [hvB] at hlook
  clear hvB
  generalize (A.at name).length = k at *
  go_wp2_with fail
  refine (named_ok E _ name w1 hd).mono ?_
  rintro e w2 ⟨rfl, hd2⟩
  have HT : Aside (Sat E w2 (HP.disk d A * q)) := ⟨Sat.disk_close hv hd2⟩
  clear hd hd2 hv c1 hlook
  cases hnm : namedB name with
  | false =>
    clear hnm hbad
    go_wp2
    go_ret
    exact ⟨rfl, HT.out⟩
  | true =>
    rw [hnm] at hbad
    have hbad : l.length ≠ 128 ∨ i < 0 ∨ (k : Int) < i := by simpa using hbad
    clear hnm
    by_cases h1 : n = 128
    · subst h1
      have hbad : i < 0 ∨ (k : Int) < i := by omega
      by_cases h2 : i < 0
      · clear hbad
        go_wp2
        go_ret
        exact ⟨rfl, HT.out⟩
      · have h3 : (k : Int) < i := by omega
        clear hbad
        go_wp2
        go_ret
        exact ⟨rfl, HT.out⟩
    · have h1' : ¬ ((n : Int) = 128) := by omega
      clear hbad
      go_wp2
      go_ret
      exact ⟨rfl, HT.out⟩
set_option maxHeartbeats 1000000 in
set_option maxRecDepth 100000 in
theorem disk_write_dead (E : Env) (q : HP) (d : Nat) (A : Dk) (name : ByteArray) (i : Int) (Ab : Option Addr) (c : Nat) (w : World) (hn : name.size ≤ maxLen)
    (hnm : namedB name = true) (hi0 : 0 ≤ i) (hi1 : i ≤ (A.at name).length) (hgo : A.goes = false) (hw : Sat E w (HP.disk d A * q)) :
    Calls Tryz.prog 63 #[.pointer (some ⟨d, 0, none⟩), .string name, .int .i64 i, .slice Ab 128 c] w fun e w' => e = .returned (.int .i64 31) ∧ Sat E w' (HP.disk d A.burnt * q) := by
  obtain ⟨m, es, clock, fs, hv, hd⟩ := hw.disk_open
  have hsm := at_small hv.fine name
  have hfu := hv.fine.fuse
  clear hw
  go_enter Tryz.func63, Tryz.ntmps63
  go_wp2_with fail
  refine (disk_none E _ d _ _ m w (dk_parts hd)).mono ?_
  rintro e w1 ⟨rfl, rfl⟩
  have c1 := (dk_parts hd).cell 1
  simp only [List.getElem?_toArray, List.getElem?_cons_zero, List.getElem?_cons_succ] at c1
  obtain ⟨v, B, cc, hvB, hlook, -, -⟩ := find_file hv hd name hn
  rw [hvB] at hlook
  clear hvB
  generalize (A.at name).length = k at *
  go_wp2_with fail
  refine (named_ok E _ name w1 hd).mono ?_
  rintro e w2 ⟨rfl, hd2⟩
  clear hd c1 hlook
  rw [hnm]
  clear hnm
  go_wp2_with fail
  refine (disk_burn E _ d _ _ m w2 hfu.2 (dk_parts hd2)).mono ?_
  rintro e w3 ⟨rfl, hd3⟩
  have HT : Aside (Sat E w3 (HP.disk d A.burnt * q)) := ⟨Sat.disk_close hv.burnt (burnt_dsk hd3)⟩
  have hgo' : (burnI A.fuse).2 = false := hgo
  rw [hgo']
  clear hd2 hd3 hv hgo hgo' hfu
  go_wp2
  go_ret
  exact ⟨rfl, HT.out⟩
set_option maxHeartbeats 1000000 in
set_option maxRecDepth 100000 in
theorem disk_write_full (E : Env) (q : HP) (d : Nat) (A : Dk) (name : ByteArray) (Ab : Option Addr) (c : Nat) (w : World) (hn : name.size ≤ maxLen)
    (hnm : namedB name = true) (hgo : A.goes = true) (hfr : A.free ≤ 0) (hw : Sat E w (HP.disk d A * q)) :
    Calls Tryz.prog 63 #[.pointer (some ⟨d, 0, none⟩), .string name, .int .i64 ((A.at name).length : Int), .slice Ab 128 c] w fun e w' => e = .returned (.int .i64 4) ∧ Sat E w' (HP.disk d A.burnt * q) := by
  obtain ⟨m, es, clock, fs, hv, hd⟩ := hw.disk_open
  have hsm := at_small hv.fine name
  have hfu := hv.fine.fuse
  have htt := hv.total
  have hszl := hv.size_le
  have hrm := hv.fine.room
  clear hw
  go_enter Tryz.func63, Tryz.ntmps63
  go_wp2_with fail
  refine (disk_none E _ d _ _ m w (dk_parts hd)).mono ?_
  rintro e w1 ⟨rfl, rfl⟩
  have c1 := (dk_parts hd).cell 1
  simp only [List.getElem?_toArray, List.getElem?_cons_zero, List.getElem?_cons_succ] at c1
  obtain ⟨v, B, cc, hvB, hlook, -, -⟩ := find_file hv hd name hn
  rw [hvB] at hlook
  clear hvB
  generalize (A.at name).length = k at *
  have HH := Aside.mk (And.intro htt (And.intro hszl hrm))
  clear htt hszl hrm
  go_wp2_with fail
  refine (named_ok E _ name w1 hd).mono ?_
  rintro e w2 ⟨rfl, hd2⟩
  clear hd c1 hlook
  rw [hnm]
  clear hnm
  go_wp2_with fail
  refine (disk_burn E _ d _ _ m w2 hfu.2 (dk_parts hd2)).mono ?_
  rintro e w3 ⟨rfl, hd3⟩
  have hgo' : (burnI A.fuse).2 = true := hgo
  rw [hgo']
  clear hd2 hgo hgo' hfu
  go_wp2_with fail
  refine (disk_free E q d A.burnt.room A.burnt.fuse m es clock fs w3 hv.map HH.out.2.2 (by rw [HH.out.1]; have := HH.out.2.1; omega) (burnt_dsk hd3)).mono ?_
  rintro e w4 ⟨rfl, hd4⟩
  have HT : Aside (Sat E w4 (HP.disk d A.burnt * q)) := ⟨Sat.disk_close hv.burnt hd4⟩
  have hr : A.burnt.room - (total fs : Int) ≤ 0 := by
    have := HH.out.1
    unfold Dk.free at hfr
    rw [this]; exact hfr
  generalize A.burnt.room - (total fs : Int) = fr at *
  clear hd4 hd3 hv hfr HH
  go_wp2
  go_ret
  exact ⟨rfl, HT.out⟩
end Go.Proofs.YtnpinegpajbkeaaGreatDoor
namespace Go.Proofs.YtnpinegpajbkeaaGreatDoor
open Go.RowKit
def OnlyN (Q : Exit → Act → World → Prop) : Exit → Act → World → Prop
  | .normal, a, w => Q .normal a w
  | _, _, _ => False
theorem OnlyN.imp {Q : Exit → Act → World → Prop} : ∀ (e : Exit) (a : Act) (w : World), OnlyN Q e a w → Q e a w := fun e a w h => by
  cases e <;> first | exact h | exact (h : False).elim
section
variable {P : Program} {ops : Array Oper} {Q : Exit → Act → World → Prop} {R : Nat → World → World → Prop}
def waitsB (ops : Array Oper) (i : Nat) : Nat → Nat → Bool
  | 0, _ => false
  | fuel + 1, d => match ops[d]? with
    | some o => o.after.any fun e => Region.binds .any e && (e.on == i || waitsB ops i fuel e.on)
    | none => false
def closedB (ops : Array Oper) (l : Array Bool) : Bool :=
  (List.range ops.size).all fun j => !l.getD j false || match ops[j]? with
    | some o => o.after.all fun e => !Region.binds .any e || l.getD e.on false
    | none => true
def Closed (ops : Array Oper) (l : Array Bool) : Prop :=
  ∀ j oj, ops[j]? = some oj → l.getD j false = true → ∀ e ∈ oj.after, Region.binds .any e = true → l.getD e.on false = true
theorem closedB_spec {l : Array Bool} (h : closedB ops l = true) : Closed ops l := by
  intro j oj hj hl e he hb
  have hlt : j < ops.size := (Array.getElem?_eq_some_iff.1 hj).1
  have h1 := List.all_eq_true.1 h j (List.mem_range.2 hlt)
  simp only [hl, hj, Bool.not_true, Bool.false_or] at h1
  have h2 := Array.all_eq_true_iff_forall_mem.1 h1 e he
  simpa [hb] using h2
theorem Closed.set {l : Array Bool} {i : Nat} (h : Closed ops l) (hi : i ∈ Region.ready .any ops l) : Closed ops (l.setIfInBounds i true) := by
  obtain ⟨_, oi, hoi, hall⟩ := mem_ready.1 hi
  intro j oj hj hl e he hb
  by_cases hij : i = j
  · subst hij
    have : oj = oi := Option.some.inj (hj.symm.trans hoi)
    subst this
    exact getD_set_true (hall e he hb)
  · rw [getD_set_ne false hij] at hl
    exact getD_set_true (h j oj hj hl e he hb)
theorem waits_listed {l : Array Bool} {i : Nat} (hc : Closed ops l) : ∀ (fuel d : Nat), waitsB ops i fuel d = true → l.getD d false = true → l.getD i false = true
  | 0, _, h, _ => by simp [waitsB] at h
  | fuel + 1, d, h, hl => by
    unfold waitsB at h
    cases ho : ops[d]? with
    | none => rw [ho] at h; simp at h
    | some o =>
      rw [ho] at h
      obtain ⟨e, he, h1⟩ := Array.any_eq_true'.1 h
      simp only [Bool.and_eq_true, Bool.or_eq_true, beq_iff_eq] at h1
      have hle := hc d o ho hl e he h1.1
      rcases h1.2 with h2 | h2
      · rw [← h2]; exact hle
      · exact waits_listed hc fuel e.on h2 hle
theorem waits_not_ready {l : Array Bool} {i d fuel : Nat} (hc : Closed ops l) (hr : waitsB ops i fuel d = true) (hun : l.getD i true = false) : d ∉ Region.ready .any ops l := by
  intro hd
  obtain ⟨_, o, ho, hall⟩ := mem_ready.1 hd
  have hi : l.getD i false = true := by
    cases fuel with
    | zero => simp [waitsB] at hr
    | succ n =>
      unfold waitsB at hr
      rw [ho] at hr
      obtain ⟨e, he, h1⟩ := Array.any_eq_true'.1 hr
      simp only [Bool.and_eq_true, Bool.or_eq_true, beq_iff_eq] at h1
      have hle := hall e he h1.1
      rcases h1.2 with h2 | h2
      · rw [← h2]; exact hle
      · exact waits_listed hc n e.on h2 hle
  rcases Nat.lt_or_ge i l.size with h' | h'
  · simp [h'] at hun hi
    rw [hun] at hi
    cases hi
  · simp [Array.getElem?_eq_none h'] at hun
def wpR (P : Program) (ops : Array Oper) (Q : Exit → Act → World → Prop) (R : Nat → World → World → Prop) : Nat → Array Bool → Act → World → Prop
  | 0, l, a, w => Region.ready .any ops l = [] ∧ Q .normal a w
  | n + 1, l, a, w =>
    (Region.ready .any ops l = [] → Q .normal a w) ∧
    ∀ i ∈ Region.ready .any ops l, wpOp P ops Q i (fun a' w' => R i w w' ∧ wpR P ops Q R n (l.setIfInBounds i true) a' w') a w
theorem wpAny_of_R : ∀ (n : Nat) (l : Array Bool) (a : Act) (w : World), wpR P ops Q R n l a w → wpAny P .any ops Q n l a w
  | 0, _, _, _, h => h
  | n + 1, _, _, _, h => ⟨h.1, fun i hi => wpOp_mono (fun a' w' h' => wpAny_of_R n _ a' w' h'.2) (h.2 i hi)⟩
theorem wpR_first {C : World → Prop} {i : Nat} {oi : Oper} {v : Value} (hi : ops[i]? = some oi) (hsel : ∀ (j : Nat) (o : Oper) cs b, ops[j]? = some o → o.op ≠ .select cs b)
    (hQ : ∀ c a w, ¬ Q (.panic c) a w) (hRi : ∀ w, R i w w) (N : Nat) :
    ∀ (n : Nat) (l : Array Bool) (a : Act) (w : World),
      (∀ j oj, ops[j]? = some oj → j ≠ i → l.getD j true = false → (∀ e ∈ oj.after, Region.binds .any e = true → e.on ≠ i) → oi.apart ops oj = true) →
      Closed ops l → (∀ j, l.getD j true = false → j ≠ i → waitsB ops i N j = false → ∀ w w', C w → R j w w' → C w') →
      i ∈ Region.ready .any ops l → YieldsIf P ops C oi v a → C w →
      wpR P ops Q R n (l.setIfInBounds i true) (a.put oi.dst v) w → wpR P ops Q R (n + 1) l a w := by
  intro n
  induction n with
  | zero =>
    intro l a w _ _ _ hr hy hC H
    refine ⟨fun h => (by rw [h] at hr; cases hr), fun j hj => ?_⟩
    by_cases hji : j = i
    · subst hji; exact hy.wpOp hi hC ⟨hRi w, H⟩
    · have := ready_mono hj hji
      rw [H.1] at this
      cases this
  | succ n ih =>
    intro l a w hfree hc hkeep hr hy hC H
    refine ⟨fun h => (by rw [h] at hr; cases hr), fun j hj => ?_⟩
    by_cases hji : j = i
    · subst hji; exact hy.wpOp hi hC ⟨hRi w, H⟩
    · have h1 := H.2 j (ready_mono hj hji)
      obtain ⟨hjun, oj, hoj, hall⟩ := mem_ready.1 hj
      have hiun := (mem_ready.1 hr).1
      have hnot : ∀ e ∈ oj.after, Region.binds .any e = true → e.on ≠ i := fun e he hb heq => by
        have h1 := hall e he hb
        rw [heq] at h1
        rcases Nat.lt_or_ge i l.size with h' | h'
        · simp [h'] at hiun h1; rw [hiun] at h1; cases h1
        · simp [Array.getElem?_eq_none h'] at h1
      have hnw : waitsB ops i N j = false := by
        cases hw : waitsB ops i N j with
        | false => rfl
        | true => exact absurd hj (waits_not_ready hc hw hiun)
      have h2 := wpOp_putIf hoj (hfree j oj hoj hji hjun hnot) (fun cs b => hsel i oi cs b hi) (fun cs b => hsel j oj cs b hoj) (fun c a w h => absurd h (hQ c _ w)) hy h1
      have hfree' : ∀ k ok, ops[k]? = some ok → k ≠ i → (l.setIfInBounds j true).getD k true = false →
          (∀ e ∈ ok.after, Region.binds .any e = true → e.on ≠ i) → oi.apart ops ok = true := fun k ok hk hki hun hno => by
        refine hfree k ok hk hki ?_ hno
        by_cases hjk : j = k
        · subst hjk; exact hjun
        · rw [getD_set_ne true hjk] at hun; exact hun
      have hkeep' : ∀ k, (l.setIfInBounds j true).getD k true = false → k ≠ i → waitsB ops i N k = false → ∀ w w', C w → R k w w' → C w' := fun k hun hki hw => by
        refine hkeep k ?_ hki hw
        by_cases hjk : j = k
        · subst hjk; exact hjun
        · rw [getD_set_ne true hjk] at hun; exact hun
      refine wpOp_mono (fun a' w' h3 => ⟨h3.2.1, ih (l.setIfInBounds j true) a' w' hfree' (hc.set hj) hkeep' (ready_mono hr (Ne.symm hji)) h3.1 (hkeep j hjun hji hnw _ _ hC h3.2.1) ?_⟩) h2
      rw [Array.setIfInBounds_comm _ _ hji]
      exact h3.2.2
theorem wpR_done {l : Array Bool} {a : Act} {w : World} (hr : (Region.ready .any ops l == []) = true) (h : Q .normal a w) : ∀ n, wpR P ops Q R n l a w
  | 0 => ⟨by simpa using hr, h⟩
  | _ + 1 => ⟨fun _ => h, by rw [show Region.ready .any ops l = [] by simpa using hr]; simp⟩
def RR (effs keeps : List Nat) (T : World → Prop) (i : Nat) (w w' : World) : Prop :=
  if effs.contains i then (if keeps.contains i then T w → T w' else True) else w' = w
theorem RR_self (effs keeps : List Nat) (T : World → Prop) {i : Nat} (w : World) : RR effs keeps T i w w := by
  unfold RR
  split
  · split
    · exact id
    · trivial
  · rfl
def readB (ops : Array Oper) (effs : List Nat) (l l' : Array Bool) (i : Nat) : Bool :=
  Region.noSelect ops && Region.free .any ops l i && (Region.ready .any ops l).contains i && closedB ops l && effs.all (fun d => d == i || l.getD d true || waitsB ops i ops.size d) && (l.setIfInBounds i true == l')
theorem wpR_read {effs keeps : List Nat} {T : World → Prop} {i : Nat} {oi : Oper} {v : Value} {n : Nat} {l : Array Bool} {a : Act} {w : World} (l' : Array Bool) (hi : ops[i]? = some oi)
    (hQ : ∀ c a w, ¬ Q (.panic c) a w) (hc : readB ops effs l l' i = true)
    (hy : (Region.wanted oi (yielded ops a.tmps) = true ∧ (execOp a.eval oi).run P w = .ok (.value v) w) ∨ (Region.wanted oi (yielded ops a.tmps) = false ∧ v = undef))
    (h : wpR P ops Q (RR effs keeps T) n l' (a.put oi.dst v) w) : wpR P ops Q (RR effs keeps T) (n + 1) l a w := by
  simp only [readB, Bool.and_eq_true, beq_iff_eq] at hc
  obtain ⟨⟨⟨⟨⟨h1, h2⟩, h3⟩, h4⟩, h5⟩, h6⟩ := hc
  subst h6
  refine wpR_first (C := fun w' => w' = w) hi (Region.noSelect_spec h1) hQ (RR_self _ _ _) ops.size n l a w (Region.free_spec hi h2) (closedB_spec h4) ?_ (by simpa using h3) ?_ rfl h
  · rintro j hj hji hw w1 w2 rfl hR
    unfold RR at hR
    split at hR
    · rename_i hm
      have := List.all_eq_true.1 h5 j (by simpa using hm)
      rw [hj, hw] at this
      simp [hji] at this
    · exact hR
  · rcases hy with ⟨hw, hv⟩ | ⟨hw, hv⟩
    · exact .inl ⟨hw, fun w' e => by subst e; exact hv⟩
    · exact .inr ⟨hw, hv⟩
def heldB (ops : Array Oper) (effs keeps : List Nat) (l l' : Array Bool) (i : Nat) : Bool :=
  Region.noSelect ops && Region.free .any ops l i && (Region.ready .any ops l).contains i && closedB ops l && effs.all (fun d => d == i || l.getD d true || keeps.contains d || waitsB ops i ops.size d) && (l.setIfInBounds i true == l')
theorem wpR_held {effs keeps : List Nat} {T : World → Prop} {i : Nat} {oi : Oper} {v : Value} {n : Nat} {l : Array Bool} {a : Act} {w : World} (l' : Array Bool) (hi : ops[i]? = some oi)
    (hQ : ∀ c a w, ¬ Q (.panic c) a w) (hc : heldB ops effs keeps l l' i = true) (hT : T w)
    (hy : (Region.wanted oi (yielded ops a.tmps) = true ∧ ∀ w', T w' → (execOp a.eval oi).run P w' = .ok (.value v) w') ∨ (Region.wanted oi (yielded ops a.tmps) = false ∧ v = undef))
    (h : wpR P ops Q (RR effs keeps T) n l' (a.put oi.dst v) w) : wpR P ops Q (RR effs keeps T) (n + 1) l a w := by
  simp only [heldB, Bool.and_eq_true, beq_iff_eq] at hc
  obtain ⟨⟨⟨⟨⟨h1, h2⟩, h3⟩, h4⟩, h5⟩, h6⟩ := hc
  subst h6
  refine wpR_first (C := T) hi (Region.noSelect_spec h1) hQ (RR_self _ _ _) ops.size n l a w (Region.free_spec hi h2) (closedB_spec h4) ?_ (by simpa using h3) hy hT h
  rintro j hj hji hw w1 w2 hT1 hR
  unfold RR at hR
  split at hR
  · rename_i hm
    split at hR
    · exact hR hT1
    · rename_i hk
      have := List.all_eq_true.1 h5 j (by simpa using hm)
      rw [hj, hw] at this
      simp [hji] at this
      exact absurd (by simpa using this) hk
  · rw [hR]; exact hT1
def oneB (ops : Array Oper) (effs : List Nat) (l l' : Array Bool) (i : Nat) : Bool := (Region.ready .any ops l == [i]) && effs.contains i && (l.setIfInBounds i true == l')
theorem wpR_eff {effs keeps : List Nat} {T : World → Prop} {i : Nat} {oi : Oper} {n : Nat} {l : Array Bool} {a : Act} {w : World} (l' : Array Bool) (hi : ops[i]? = some oi) (hc : (oneB ops effs l l' i && !keeps.contains i) = true)
    (h : ∀ K : Act → World → Prop, (∀ a' w', wpR P ops Q (RR effs keeps T) n l' a' w' → K a' w') → if Region.wanted oi (yielded ops a.tmps) = true then Oper.wp P oi a w K Q else K (a.put oi.dst undef) w) :
    wpR P ops Q (RR effs keeps T) (n + 1) l a w := by
  simp only [oneB, Bool.and_eq_true, beq_iff_eq] at hc
  obtain ⟨⟨⟨h1, h2⟩, h3⟩, h4⟩ := hc
  subst h3
  refine ⟨fun h0 => (by rw [h0] at h1; cases h1), fun j hj => ?_⟩
  rw [h1] at hj
  obtain rfl : j = i := by simpa using hj
  refine wpOp_step hi fun K hK => h K fun a' w' h' => hK a' w' ⟨?_, h'⟩
  unfold RR
  rw [if_pos h2, if_neg (by simpa using h4)]
  trivial
theorem wpR_keep {effs keeps : List Nat} {T : World → Prop} {i : Nat} {oi : Oper} {n : Nat} {l : Array Bool} {a : Act} {w : World} (l' : Array Bool) (hi : ops[i]? = some oi) (hc : oneB ops effs l l' i = true)
    (h : ∀ K : Act → World → Prop, (∀ a' w', T w' → wpR P ops Q (RR effs keeps T) n l' a' w' → K a' w') → if Region.wanted oi (yielded ops a.tmps) = true then Oper.wp P oi a w K Q else K (a.put oi.dst undef) w) :
    wpR P ops Q (RR effs keeps T) (n + 1) l a w := by
  simp only [oneB, Bool.and_eq_true, beq_iff_eq] at hc
  obtain ⟨⟨h1, h2⟩, h3⟩ := hc
  subst h3
  refine ⟨fun h0 => (by rw [h0] at h1; cases h1), fun j hj => ?_⟩
  rw [h1] at hj
  obtain rfl : j = i := by simpa using hj
  refine wpOp_step hi fun K hK => h K fun a' w' hT h' => hK a' w' ⟨?_, h'⟩
  unfold RR
  rw [if_pos h2]
  split
  · exact fun _ => hT
  · trivial
theorem region_R {id n : Nat} {a : Act} {w : World} (effs keeps : List Nat) (T : World → Prop) (l : Array Bool) (hm : P.follows .mixedOrders = true) (hn : ops.size = n) (hl : Array.replicate n false = l)
    (h : wpR P ops (OnlyN Q) (RR effs keeps T) n l a w.drew) : (Code.region id ops true).wp P Q a w := by
  subst hn
  subst hl
  exact Code.wp_mono OnlyN.imp (wp_region_any hm (wpAny_of_R _ _ _ _ h))
def noDefer (ops : Array Oper) : Bool := ops.all fun o => match o.op with | .defer _ => false | _ => true
theorem wpR_rd {effs keeps : List Nat} {T : World → Prop} (i : Nat) {oi : Oper} {n : Nat} {l : Array Bool} {a : Act} {w : World} (l' : Array Bool) (hi : ops[i]? = some oi)
    (hQ : ∀ c a w, ¬ Q (.panic c) a w) (hc : readB ops effs l l' i = true)
    (h : ∀ K : Act → Prop, (∀ a', wpR P ops Q (RR effs keeps T) n l' a' w → K a') → if Region.wanted oi (yielded ops a.tmps) then (∃ v, (execOp a.eval oi).run P w = .ok (.value v) w ∧ K (a.put oi.dst v)) else K (a.put oi.dst undef)) :
    wpR P ops Q (RR effs keeps T) (n + 1) l a w := by
  have h1 := h _ (fun _ h => h)
  by_cases hw : Region.wanted oi (yielded ops a.tmps) = true
  · rw [if_pos hw] at h1
    obtain ⟨v, hv, hk⟩ := h1
    exact wpR_read l' hi hQ hc (.inl ⟨hw, hv⟩) hk
  · rw [if_neg hw] at h1
    exact wpR_read l' hi hQ hc (.inr ⟨by simpa using hw, rfl⟩) h1
def pureB (ops : Array Oper) (l l' : Array Bool) (i : Nat) : Bool :=
  Region.noSelect ops && Region.free .any ops l i && (Region.ready .any ops l).contains i && closedB ops l && (l.setIfInBounds i true == l')
theorem wpR_pu {effs keeps : List Nat} {T : World → Prop} (i : Nat) {oi : Oper} {n : Nat} {l : Array Bool} {a : Act} {w : World} (l' : Array Bool) (hi : ops[i]? = some oi)
    (hQ : ∀ c a w, ¬ Q (.panic c) a w) (hc : pureB ops l l' i = true)
    (h : ∀ K : Act → Prop, (∀ a', wpR P ops Q (RR effs keeps T) n l' a' w → K a') → if Region.wanted oi (yielded ops a.tmps) then (∃ v, (∀ w', (execOp a.eval oi).run P w' = .ok (.value v) w') ∧ K (a.put oi.dst v)) else K (a.put oi.dst undef)) :
    wpR P ops Q (RR effs keeps T) (n + 1) l a w := by
  simp only [pureB, Bool.and_eq_true, beq_iff_eq] at hc
  obtain ⟨⟨⟨⟨h1, h2⟩, h3⟩, h4⟩, h6⟩ := hc
  subst h6
  have hh := h _ (fun _ h => h)
  by_cases hw : Region.wanted oi (yielded ops a.tmps) = true
  · rw [if_pos hw] at hh
    obtain ⟨v, hv, hk⟩ := hh
    exact wpR_first (C := fun _ => True) hi (Region.noSelect_spec h1) hQ (RR_self _ _ _) ops.size n l a w (Region.free_spec hi h2) (closedB_spec h4) (fun _ _ _ _ _ _ _ _ => trivial) (by simpa using h3) (.inl ⟨hw, fun w' _ => hv w'⟩) trivial hk
  · rw [if_neg hw] at hh
    exact wpR_first (C := fun _ => True) hi (Region.noSelect_spec h1) hQ (RR_self _ _ _) ops.size n l a w (Region.free_spec hi h2) (closedB_spec h4) (fun _ _ _ _ _ _ _ _ => trivial) (by simpa using h3) (.inr ⟨by simpa using hw, rfl⟩) trivial hh
theorem onlyN_noPanic : ∀ c a w, ¬ OnlyN Q (.panic c) a w := fun _ _ _ h => h
end
end Go.Proofs.YtnpinegpajbkeaaGreatDoor
namespace Go.Proofs.YtnpinegpajbkeaaGreatDoor
open Go.RowKit HP
theorem wp_store_run {P : Program} {o : Oper} {a : Act} {w w' : World} {K : Act → World → Prop} {Q : Exit → Act → World → Prop} {ty : TypeId} {p v : Operand} {adr : Addr} {V : Value} (ho : o.op = .store ty p v) (hp : a.eval p = .pointer (some adr)) (hv : a.eval v = V)
    (hd : o.dst = none) (hr : (storeVar ty adr V).run P w = .ok () w') (h : K a w') : o.wp P a w K Q := by
  unfold Oper.wp execOp
  simp only [ho, hp, hv, hd, Instr.storeAt, Instr.sureAddr, Sem.run_bind, Sem.run_pure, Result.andThen_ok, hr]
  show K (a.put o.dst undef) w'
  rw [hd]
  exact h
theorem exec_load {P : Program} {o : Oper} {a : Act} {w : World} {ty : TypeId} {p : Operand} {adr : Addr} {V : Value} (ho : o.op = .load ty p) (hp : a.eval p = .pointer (some adr)) (hr : (loadVar ty adr).run P w = .ok V w) : (execOp a.eval o).run P w = .ok (.value V) w := by
  unfold execOp
  simp only [ho, hp, Instr.loadAt, Instr.sureAddr, Sem.run_bind, Sem.run_pure, Result.andThen_ok, hr]
theorem exec_build {P : Program} {o : Oper} {a : Act} {w : World} {ty : TypeId} {ps : Array (Nat × Operand)} {V : Value} (ho : o.op = .build ty ps) (hr : (Instr.build ty (ps.map fun p => (p.1, a.eval p.2))).run P w = .ok V w) : (execOp a.eval o).run P w = .ok (.value V) w := by
  simp [execOp, ho, hr, Result.andThen]
theorem Cel.wrote_fine {c : Cel} (h : c.Fine) {l : List Int} (hl : l.length = 128) : (c.wrote l).Fine := ⟨hl, h.2.1, h.2.2.1, hl⟩
theorem all_map_set {α : Type} (g : α → HP) (l : List α) (k : Nat) (y : α) (h : k < l.length) : HP.all ((l.set k y).map g) = g y * HP.all ((l.map g).eraseIdx k) := by
  have h1 : ((l.set k y).map g)[k]? = some (g y) := by rw [List.getElem?_map, List.getElem?_set]; simp [h]
  rw [all_take h1, List.map_set, List.eraseIdx_set_eq]
theorem take_cel {E : Env} {q : HP} {w : World} {d m : Nat} {A : Dk} {es : Array MapEntry} {clock : Nat} {fs : List Fil} (hv : View A es clock fs) (hw : Sat E w (HP.dk d A.room A.fuse m es clock fs * q)) {j : Nat} {f : Fil} (hj : fs[j]? = some f) {k : Nat} {x : Nat × Cel} (hk : f.cels[k]? = some x) :
    ∃ r : HP, Sat E w (HP.cel x.1 x.2 * r) ∧ (∀ w, Sat E w r → Sat E w (HP.row 145 1 f.val f.cels.length f.ptrs * q)) ∧ ∀ (w' : World) (c' : Cel), c'.Fine → Sat E w' (HP.cel x.1 c' * r) → Sat E w' (HP.disk d (A.set f.name (f.cs.set k c')) * q) := by
  have h1 := dk_parts hw
  have h2 : Sat E w (HP.all (fs.map HP.fil) * (HP.dsk d A.room A.fuse m * (HP.pt m (.map es clock) * q))) := h1.perm (by ac_rfl)
  rw [all_take (l := fs.map HP.fil) (j := j) (p := HP.fil f) (by rw [List.getElem?_map, hj]; rfl)] at h2
  have h3 : Sat E w (HP.all (f.cels.map fun x => HP.cel x.1 x.2) * (HP.row 145 1 f.val f.cels.length f.ptrs * (HP.all ((fs.map HP.fil).eraseIdx j) * (HP.dsk d A.room A.fuse m * (HP.pt m (.map es clock) * q))))) := h2.perm (by unfold HP.fil; ac_rfl)
  rw [all_take (l := f.cels.map fun x => HP.cel x.1 x.2) (j := k) (p := HP.cel x.1 x.2) (by rw [List.getElem?_map, hk]; rfl)] at h3
  refine ⟨_, h3.perm (HP.mul_assoc _ _ _), fun w h => ?_, fun w' c' hc' h => ?_⟩
  · exact Sat.left (q := HP.all ((f.cels.map fun x => HP.cel x.1 x.2).eraseIdx k) * (HP.all ((fs.map HP.fil).eraseIdx j) * (HP.dsk d A.room A.fuse m * (HP.pt m (.map es clock))))) (h.perm (by ac_rfl))
  · have hjl : j < fs.length := (List.getElem?_eq_some_iff.1 hj).1
    have hkl : k < f.cels.length := (List.getElem?_eq_some_iff.1 hk).1
    let cels' := f.cels.set k (x.1, c')
    have hlen : cels'.length = f.cels.length := List.length_set
    have hne : cels' ≠ [] := by intro h0; rw [h0] at hlen; simp at hlen; omega
    have hv' := hv.set hj (v := f.val) (cels := cels') hne (fun y hy => by
      rcases List.mem_or_eq_of_mem_set hy with h5 | rfl
      · exact hv.cel_fine (List.mem_of_getElem? hj) h5
      · exact hc') (by have := hv.fine.fits; rw [hlen]; omega)
    have hcs : cels'.map (·.2) = f.cs.set k c' := by
      show (f.cels.set k _).map (·.2) = (f.cels.map (·.2)).set k c'
      rw [List.map_set]
    rw [hcs] at hv'
    have hkv := hv.map.2.1
    have hes : (es.modify j fun e => { e with key := Value.string f.name, val := f.val }) = es := by
      apply Array.toList_inj.1
      rw [Array.toList_modify]
      apply List.ext_getElem?
      intro i
      rw [List.getElem?_modify]
      by_cases hi : j = i
      · subst hi
        have h6 := congrArg (fun l => l[j]?) hkv
        simp only [List.getElem?_map, hj, Option.map_some] at h6
        cases h7 : es.toList[j]? with
        | none => rw [h7] at h6; cases h6
        | some e =>
          rw [h7] at h6
          simp only [Option.map_some, Option.some.injEq, Prod.mk.injEq] at h6
          simp only [if_true, Option.map_some, Option.map_eq_map, ← h6.1, ← h6.2]
      · simp [hi]
    rw [hes] at hv'
    refine Sat.disk_close (m := m) hv' ?_
    show Sat E w' (HP.dk d A.room A.fuse m es clock (fs.set j ⟨f.name, f.val, cels'⟩) * q)
    have ha : HP.all ((fs.set j (⟨f.name, f.val, cels'⟩ : Fil)).map HP.fil) = HP.fil ⟨f.name, f.val, cels'⟩ * HP.all ((fs.map HP.fil).eraseIdx j) := by
      rw [all_take (l := (fs.set j (⟨f.name, f.val, cels'⟩ : Fil)).map HP.fil) (j := j) (p := HP.fil ⟨f.name, f.val, cels'⟩) (by rw [List.getElem?_map, List.getElem?_set]; simp [hjl])]
      rw [List.map_set, List.eraseIdx_set_eq]
    have hp : (⟨f.name, f.val, cels'⟩ : Fil).ptrs = f.ptrs := by
      show (f.cels.set k _).map _ = f.cels.map _
      rw [List.map_set]
      apply List.ext_getElem?
      intro i
      rw [List.getElem?_set]
      by_cases hi : k = i
      · subst hi; simp [hk]; exact hkl
      · simp [hi]
    have hb : HP.all (cels'.map fun x => HP.cel x.1 x.2) = HP.cel x.1 c' * HP.all ((f.cels.map fun x => HP.cel x.1 x.2).eraseIdx k) :=
      all_map_set (fun x : Nat × Cel => HP.cel x.1 x.2) f.cels k (x.1, c') hkl
    unfold HP.dk
    rw [ha]
    show Sat E w' (HP.dsk d A.room A.fuse m * (HP.pt m (.map es clock) * (HP.row 145 1 f.val cels'.length (⟨f.name, f.val, cels'⟩ : Fil).ptrs * HP.all (cels'.map fun x => HP.cel x.1 x.2) * HP.all ((fs.map HP.fil).eraseIdx j))) * q)
    rw [hlen, hp, hb]
    exact h.perm (by ac_rfl)
set_option maxHeartbeats 4000000 in
set_option maxRecDepth 100000 in
theorem disk_write_old (E : Env) (q : HP) (d : Nat) (A : Dk) (name : ByteArray) (k : Nat) (ab : Addr) (l : List Int) (c : Nat) (w : World) (hn : name.size ≤ maxLen) (hl : l.length = 128) (hq : ∀ w, Sat E w q → Cells w (some ab) (b8s l))
    (hnm : namedB name = true) (hk : k < (A.at name).length) (hgo : A.goes = true) (hw : Sat E w (HP.disk d A * q)) :
    Calls Tryz.prog 63 #[.pointer (some ⟨d, 0, none⟩), .string name, .int .i64 (k : Int), .slice (some ab) 128 c] w fun e w' => e = .returned (.int .i64 0) ∧ Sat E w' (HP.disk d (A.burnt.set name ((A.at name).modify k fun c => c.wrote l)) * q) := by
  obtain ⟨m, es, clock, fs, hv, hd⟩ := hw.disk_open
  have hsm := at_small hv.fine name
  have hfu := hv.fine.fuse
  clear hw
  go_enter Tryz.func63, Tryz.ntmps63
  go_wp2_with fail
  refine (disk_none E _ d _ _ m w (dk_parts hd)).mono ?_
  rintro e w1 ⟨rfl, rfl⟩
  have c1 := (dk_parts hd).cell 1
  simp only [List.getElem?_toArray, List.getElem?_cons_zero, List.getElem?_cons_succ] at c1
  obtain ⟨v, B, cc, hvB, hlook, -, hcase⟩ := find_file hv hd name hn
  rcases hcase with ⟨hlk, -⟩ | ⟨j, f, hj, hname, hfv, hlk⟩
  · simp [Dk.at, hlk] at hk
  have hat : A.at name = f.cs := by simp [Dk.at, hlk]
  obtain ⟨x, hx⟩ : ∃ x, f.cels[k]? = some x := by
    rw [hat, Fil.cs, List.length_map] at hk
    exact ⟨_, List.getElem?_eq_getElem hk⟩
  have hxf : x.2.Fine := hv.cel_fine (List.mem_of_getElem? hj) (List.mem_of_getElem? hx)
  have hkl : k < f.cels.length := by
    have := hk
    rwa [hat, Fil.cs, List.length_map] at this
  rw [hat, Fil.cs, List.length_map] at hvB hsm
  rw [hvB] at hlook
  have HH := Aside.mk (And.intro hat (And.intro hvB (And.intro hkl (And.intro hx (And.intro hj (And.intro hname hfv))))))
  clear hat hvB hlk hx hj hname hfv hk
  have hk1 : (k : Int) < (f.cels.length : Int) := by omega
  have hk2 : (0 : Int) ≤ (k : Int) := by omega
  have hk3 : ¬ ((k : Int) = (f.cels.length : Int)) := by omega
  obtain ⟨nn, hnn⟩ : ∃ nn, nn = f.cels.length := ⟨_, rfl⟩
  rw [← hnn] at hlook hk1 hk3 hkl hsm
  have HN := Aside.mk hnn
  clear hnn
  go_wp2_with fail
  refine (named_ok E _ name w1 hd).mono ?_
  rintro e w2 ⟨rfl, hd2⟩
  clear hd c1 hlook
  rw [hnm]
  go_wp2_with fail
  refine (disk_burn E _ d _ _ m w2 hfu.2 (dk_parts hd2)).mono ?_
  rintro e w3 ⟨rfl, hd3⟩
  have hgo' : (burnI A.fuse).2 = true := hgo
  rw [hgo']
  have hd4 := burnt_dsk hd3
  obtain ⟨hat, hvB, hkl', hx, hj, hname, hfv⟩ := HH.out
  obtain ⟨r, hr1, hr2, hr3⟩ := take_cel hv.burnt hd4 hj hx
  have hrow := hr2 _ hr1.right
  rw [hfv, hvB] at hrow
  obtain ⟨pa, hpa, hcx⟩ := hrow.row_cells.at_ k (by simp [Fil.ptrs, hkl'])
  obtain ⟨g, o, rfl⟩ : ∃ g o, pa = ⟨g, o, none⟩ := slice_addr hrow.row_cells hpa (k := k) (by simp [Fil.ptrs, hkl'])
  subst hpa
  rw [addr_add] at hcx
  have hxk : f.cels[k] = x := by
    have := List.getElem?_eq_getElem hkl'
    rw [hx] at this
    exact (Option.some.inj this).symm
  simp only [Fil.ptrs, List.getElem_map, hxk] at hcx
  have HS : Aside (∀ w', Sat E w' (HP.cel x.1 (x.2.wrote l) * r) → Sat E w' (HP.disk d (A.burnt.set name ((A.at name).modify k fun c => c.wrote l)) * q)) := ⟨fun w' h => by
    have h5 := hr3 w' _ (Cel.wrote_fine hxf hl) h
    rw [hname] at h5
    have e1 : (A.at name).modify k (fun c => c.wrote l) = f.cs.set k (x.2.wrote l) := by
      rw [hat]
      apply List.ext_getElem?
      intro i
      simp only [Fil.cs, List.getElem?_map, List.getElem?_modify, List.getElem?_set, List.length_map]
      by_cases hi : k = i
      · subst hi; simp only [hx, if_true, Option.map_some, hkl', Option.map_eq_map]
      · simp [hi]
    rw [e1]
    exact h5⟩
  have hab : Cells w3.drew (some ab) (b8s l) := hq _ hrow.right.drew
  have har := fun a w => run_arrayImg a 128 c (by omega) w
  obtain ⟨gb, ob, rfl⟩ : ∃ g o, ab = ⟨g, o, none⟩ := slice_addr hab rfl (k := 0) (by simp [b8s_length, hl])
  have hld := run_loadAgg agImg (by rw [b8s_length, hl]) hab
  obtain ⟨w4, hs1, hd5⟩ := cel_store (off := 0) (l := l) (c' := { x.2 with read := l }) hr1.drew hxf hl (by omega) (set_read hxf hl)
  have hxf5 : ({ x.2 with read := l } : Cel).Fine := ⟨hl, hxf.2.1, hxf.2.2.1, hxf.2.2.2⟩
  obtain ⟨w5, hs2, hd6⟩ := cel_store (off := 384) (l := l) (c' := { x.2 with read := l, written := l }) hd5 hxf5 hl (by omega) (set_written hxf5 hl)
  have hxf6 : ({ x.2 with read := l, written := l } : Cel).Fine := ⟨hl, hxf.2.1, hxf.2.2.1, hl⟩
  have c6 := cel_waits hd6 hxf6
  have f6 := cel_thaw hd6 512
  have HD := Aside.mk (HS.out _ (cel_set_waits hd6 hxf6 true))
  clear hd2 hd3 hd4 hv hgo hgo' hfu hr1 hr2 hr3 hrow hab hxf hxf5 hxf6 hd5 hd6 hq hnm hj hname hfv hvB hx hxk hat HS HH hkl'
  clear HN
  obtain ⟨img, himg⟩ : ∃ img, img = (b8s l).toArray := ⟨_, rfl⟩
  rw [← himg] at hld hs1 hs2
  clear himg hl
  go_wp2
  clear hk3
  refine region_R [20, 23, 26] [] (fun _ => True) #[false, false, false, false, false, false, false, false, false, false, false, false, false, false, false, false, false, false, false, false, false, false, false, false, false, false, false] (by kernel_rfl) rfl rfl ?_
  refine wpR_rd 0 #[true, false, false, false, false, false, false, false, false, false, false, false, false, false, false, false, false, false, false, false, false, false, false, false, false, false, false] rfl onlyN_noPanic (by kernel_rfl) (fun K hK => ?_); (go_simp; try go_bits); refine hK _ ?_; clear hK K
  refine wpR_rd 1 #[true, true, false, false, false, false, false, false, false, false, false, false, false, false, false, false, false, false, false, false, false, false, false, false, false, false, false] rfl onlyN_noPanic (by kernel_rfl) (fun K hK => ?_); (go_simp; try go_bits); refine hK _ ?_; clear hK K
  refine wpR_rd 2 #[true, true, true, false, false, false, false, false, false, false, false, false, false, false, false, false, false, false, false, false, false, false, false, false, false, false, false] rfl onlyN_noPanic (by kernel_rfl) (fun K hK => ?_); (go_simp; try go_bits); refine hK _ ?_; clear hK K
  refine wpR_rd 3 #[true, true, true, true, false, false, false, false, false, false, false, false, false, false, false, false, false, false, false, false, false, false, false, false, false, false, false] rfl onlyN_noPanic (by kernel_rfl) (fun K hK => ?_); (go_simp; try go_bits); refine hK _ ?_; clear hK K
  refine wpR_rd 4 #[true, true, true, true, true, false, false, false, false, false, false, false, false, false, false, false, false, false, false, false, false, false, false, false, false, false, false] rfl onlyN_noPanic (by kernel_rfl) (fun K hK => ?_); (go_simp; try go_bits); refine hK _ ?_; clear hK K
  refine wpR_rd 5 #[true, true, true, true, true, true, false, false, false, false, false, false, false, false, false, false, false, false, false, false, false, false, false, false, false, false, false] rfl onlyN_noPanic (by kernel_rfl) (fun K hK => ?_); (go_simp; try go_bits); refine hK _ ?_; clear hK K
  refine wpR_rd 6 #[true, true, true, true, true, true, true, false, false, false, false, false, false, false, false, false, false, false, false, false, false, false, false, false, false, false, false] rfl onlyN_noPanic (by kernel_rfl) (fun K hK => ?_); (go_simp; try go_bits); refine hK _ ?_; clear hK K
  refine wpR_rd 7 #[true, true, true, true, true, true, true, true, false, false, false, false, false, false, false, false, false, false, false, false, false, false, false, false, false, false, false] rfl onlyN_noPanic (by kernel_rfl) (fun K hK => ?_); (go_simp; try go_bits); refine hK _ ?_; clear hK K
  refine wpR_rd 8 #[true, true, true, true, true, true, true, true, true, false, false, false, false, false, false, false, false, false, false, false, false, false, false, false, false, false, false] rfl onlyN_noPanic (by kernel_rfl) (fun K hK => ?_); (go_simp; try go_bits); refine hK _ ?_; clear hK K
  refine wpR_rd 9 #[true, true, true, true, true, true, true, true, true, true, false, false, false, false, false, false, false, false, false, false, false, false, false, false, false, false, false] rfl onlyN_noPanic (by kernel_rfl) (fun K hK => ?_); (go_simp; try go_bits); refine hK _ ?_; clear hK K
  refine wpR_rd 10 #[true, true, true, true, true, true, true, true, true, true, true, false, false, false, false, false, false, false, false, false, false, false, false, false, false, false, false] rfl onlyN_noPanic (by kernel_rfl) (fun K hK => ?_); (go_simp; try go_bits); refine hK _ ?_; clear hK K
  refine wpR_rd 11 #[true, true, true, true, true, true, true, true, true, true, true, true, false, false, false, false, false, false, false, false, false, false, false, false, false, false, false] rfl onlyN_noPanic (by kernel_rfl) (fun K hK => ?_); (go_simp; try go_bits); refine hK _ ?_; clear hK K
  refine wpR_rd 12 #[true, true, true, true, true, true, true, true, true, true, true, true, true, false, false, false, false, false, false, false, false, false, false, false, false, false, false] rfl onlyN_noPanic (by kernel_rfl) (fun K hK => ?_); (go_simp; try go_bits); refine hK _ ?_; clear hK K
  refine wpR_rd 13 #[true, true, true, true, true, true, true, true, true, true, true, true, true, true, false, false, false, false, false, false, false, false, false, false, false, false, false] rfl onlyN_noPanic (by kernel_rfl) (fun K hK => ?_); (go_simp; try go_bits); refine hK _ ?_; clear hK K
  refine wpR_read (i := 14) #[true, true, true, true, true, true, true, true, true, true, true, true, true, true, true, false, false, false, false, false, false, false, false, false, false, false, false] rfl onlyN_noPanic (by kernel_rfl) (.inl ⟨rfl, exec_load rfl rfl hld⟩) ?_
  simp only [Act.put, List.setIfInBounds_toArray, List.set_cons_zero, List.set_cons_succ]
  refine wpR_rd 15 #[true, true, true, true, true, true, true, true, true, true, true, true, true, true, true, true, false, false, false, false, false, false, false, false, false, false, false] rfl onlyN_noPanic (by kernel_rfl) (fun K hK => ?_); (go_simp; try go_bits); refine hK _ ?_; clear hK K
  refine wpR_rd 16 #[true, true, true, true, true, true, true, true, true, true, true, true, true, true, true, true, true, false, false, false, false, false, false, false, false, false, false] rfl onlyN_noPanic (by kernel_rfl) (fun K hK => ?_); (go_simp; try go_bits); refine hK _ ?_; clear hK K
  refine wpR_read (i := 17) #[true, true, true, true, true, true, true, true, true, true, true, true, true, true, true, true, true, true, false, false, false, false, false, false, false, false, false] rfl onlyN_noPanic (by kernel_rfl) (.inl ⟨rfl, exec_load rfl rfl hld⟩) ?_
  simp only [Act.put, List.setIfInBounds_toArray, List.set_cons_zero, List.set_cons_succ]
  refine wpR_rd 18 #[true, true, true, true, true, true, true, true, true, true, true, true, true, true, true, true, true, true, true, false, false, false, false, false, false, false, false] rfl onlyN_noPanic (by kernel_rfl) (fun K hK => ?_); (go_simp; try go_bits); refine hK _ ?_; clear hK K
  refine wpR_rd 19 #[true, true, true, true, true, true, true, true, true, true, true, true, true, true, true, true, true, true, true, true, false, false, false, false, false, false, false] rfl onlyN_noPanic (by kernel_rfl) (fun K hK => ?_); (go_simp; try go_bits); refine hK _ ?_; clear hK K
  refine wpR_eff #[true, true, true, true, true, true, true, true, true, true, true, true, true, true, true, true, true, true, true, true, true, false, false, false, false, false, false] (i := 20) rfl (by kernel_rfl) (fun K hK => ?_)
  refine Eq.mpr (if_pos (by rfl)) ?_; refine wp_store_run rfl rfl rfl rfl hs1 ?_; refine hK _ _ ?_; clear hK K
  refine wpR_rd 21 #[true, true, true, true, true, true, true, true, true, true, true, true, true, true, true, true, true, true, true, true, true, true, false, false, false, false, false] rfl onlyN_noPanic (by kernel_rfl) (fun K hK => ?_); (go_simp; try go_bits); refine hK _ ?_; clear hK K
  refine wpR_rd 22 #[true, true, true, true, true, true, true, true, true, true, true, true, true, true, true, true, true, true, true, true, true, true, true, false, false, false, false] rfl onlyN_noPanic (by kernel_rfl) (fun K hK => ?_); (go_simp; try go_bits); refine hK _ ?_; clear hK K
  refine wpR_eff #[true, true, true, true, true, true, true, true, true, true, true, true, true, true, true, true, true, true, true, true, true, true, true, true, false, false, false] (i := 23) rfl (by kernel_rfl) (fun K hK => ?_)
  refine Eq.mpr (if_pos (by rfl)) ?_; refine wp_store_run rfl rfl rfl rfl hs2 ?_; refine hK _ _ ?_; clear hK K
  refine wpR_rd 24 #[true, true, true, true, true, true, true, true, true, true, true, true, true, true, true, true, true, true, true, true, true, true, true, true, true, false, false] rfl onlyN_noPanic (by kernel_rfl) (fun K hK => ?_); (go_simp; try go_bits); refine hK _ ?_; clear hK K
  refine wpR_rd 25 #[true, true, true, true, true, true, true, true, true, true, true, true, true, true, true, true, true, true, true, true, true, true, true, true, true, true, false] rfl onlyN_noPanic (by kernel_rfl) (fun K hK => ?_); (go_simp; try go_bits); refine hK _ ?_; clear hK K
  refine wpR_eff #[true, true, true, true, true, true, true, true, true, true, true, true, true, true, true, true, true, true, true, true, true, true, true, true, true, true, true] (i := 26) rfl (by kernel_rfl) (fun K hK => ?_)
  go_simp; refine hK _ _ ?_; clear hK K
  refine wpR_done (by kernel_rfl) ?_ _
  simp only [OnlyN]
  go_wp2
  go_ret
  exact ⟨rfl, HD.out⟩
theorem new_cel {E : Env} {q : HP} {d m : Nat} {A : Dk} {es : Array MapEntry} {clock : Nat} {fs : List Fil} (hv : View A es clock fs) {name : ByteArray} {v : Value} (hn : name.size ≤ maxLen) (hnm : namedB name = true) (hfree : 0 < A.free)
    (hcase : (lk A.files name = none ∧ v = .slice none 0 0) ∨ ∃ (j : Nat) (f : Fil), fs[j]? = some f ∧ f.name = name ∧ f.val = v ∧ lk A.files name = some f.cs) :
    ∃ (ptrs : List Value) (R : HP) (es' : Value → Array MapEntry) (clock' : Nat), ptrs.length = (A.at name).length ∧ (∀ w, Sat E w R → Sat E w q) ∧
      (∀ w, Sat E w (HP.dk d A.room A.fuse m es clock fs * q) → Sat E w (HP.row 145 1 v (A.at name).length ptrs * (HP.dsk d A.room A.fuse m * (HP.pt m (.map es clock) * R)))) ∧
      (∀ (w : World) (v' : Value), w.heap[m]? = some (.map es clock) → (Instr.mapUpdate 141 (.map (some m)) (.string name) v').run Tryz.prog w = .ok () (ChangeMaps.setBlock w m (.map (es' v') clock'))) ∧
      (∀ (w : World) (v' : Value) (b0 : Nat) (c' : Cel), c'.Fine → Sat E w (HP.cel b0 c' * (HP.row 145 1 v' ((A.at name).length + 1) (ptrs ++ [.pointer (some ⟨b0, 0, none⟩)]) * (HP.dsk d A.room A.fuse m * (HP.pt m (.map (es' v') clock') * R)))) →
        Sat E w (HP.disk d (A.set name (A.at name ++ [c'])) * q)) := by
  have hfr : (sizeF A.files : Int) + 1 ≤ A.room := by unfold Dk.free at hfree; omega
  rcases hcase with ⟨hlk, rfl⟩ | ⟨j, f, hj, hname, hfv, hlk⟩
  · have hat : A.at name = [] := by simp [Dk.at, hlk]
    rw [hat]
    refine ⟨[], HP.all (fs.map HP.fil) * q, fun v' => es.push ⟨.string name, v', clock⟩, clock + 1, rfl, fun w h => h.right, fun w h => ?_, fun w v' hb => ?_, fun w v' b0 c' hc h => ?_⟩
    · exact (dk_parts h).row_nil _ _ _
    · have hno : ∀ x ∈ es.toList, x.key ≠ .string name := fun x hx hk => by
        have h1 : (x.key, x.val) ∈ es.toList.map (fun x => (x.key, x.val)) := List.mem_map.2 ⟨x, hx, rfl⟩
        rw [hv.map.2.1] at h1
        obtain ⟨f, hf, hfe⟩ := List.mem_map.1 h1
        simp only [Prod.mk.injEq] at hfe
        have h2 := lkF_none (s := name) (by rw [hv.same, hlk]) f hf
        rw [hk] at hfe
        injection hfe.1 with h3
        exact h2 h3
      rcases update_str (P := Tryz.prog) (t := 141) Tryz.underlying9 Tryz.underlying141 hb hv.map.1 name hn v' with ⟨-, h⟩ | ⟨j, x, hj, hx, -⟩
      · exact h
      · exact absurd hx (hno x (List.mem_of_getElem? hj))
    · have hv' := hv.push (v := v') (cels := [(b0, c')]) hnm hlk (by simp) (fun x hx => by simp only [List.mem_singleton] at hx; subst hx; exact hc) (by simpa using hfr) hn
      refine Sat.disk_close (m := m) hv' ?_
      show Sat E w (HP.dk d A.room A.fuse m _ _ (fs ++ [⟨name, v', [(b0, c')]⟩]) * q)
      unfold HP.dk
      rw [List.map_append, HP.all_append]
      have e1 : HP.all ([(⟨name, v', [(b0, c')]⟩ : Fil)].map HP.fil) = HP.row 145 1 v' 1 [.pointer (some ⟨b0, 0, none⟩)] * HP.cel b0 c' := by
        simp only [List.map_cons, List.map_nil, HP.all, HP.mul_emp]
        unfold HP.fil
        simp only [List.map_cons, List.map_nil, HP.all, HP.mul_emp, Fil.ptrs, List.length_cons, List.length_nil]
      rw [e1]
      exact h.perm (by simp only [List.length_nil, Nat.zero_add, List.nil_append]; ac_rfl)
  · subst hname
    have hat : A.at f.name = f.cs := by simp [Dk.at, hlk]
    have hlen : (A.at f.name).length = f.cels.length := by rw [hat, Fil.cs, List.length_map]
    have hjl : j < fs.length := (List.getElem?_eq_some_iff.1 hj).1
    rw [hlen]
    refine ⟨f.ptrs, HP.all (f.cels.map fun x => HP.cel x.1 x.2) * (HP.all ((fs.map HP.fil).eraseIdx j) * q), fun v' => es.modify j fun e => { e with key := .string f.name, val := v' }, clock, by simp [Fil.ptrs], fun w h => h.right.right, fun w h => ?_, fun w v' hb => ?_, fun w v' b0 c' hc h => ?_⟩
    · have h1 := dk_parts h
      have h2 : Sat E w (HP.all (fs.map HP.fil) * (HP.dsk d A.room A.fuse m * (HP.pt m (.map es clock) * q))) := h1.perm (by ac_rfl)
      rw [all_take (l := fs.map HP.fil) (j := j) (p := HP.fil f) (by rw [List.getElem?_map, hj]; rfl)] at h2
      rw [← hfv]
      exact h2.perm (by unfold HP.fil; ac_rfl)
    · rcases update_str (P := Tryz.prog) (t := 141) Tryz.underlying9 Tryz.underlying141 hb hv.map.1 f.name hn v' with ⟨hno, -⟩ | ⟨i, x, hi, hx, h⟩
      · have h1 : (Value.string f.name, f.val) ∈ fs.map (fun f => (Value.string f.name, f.val)) := List.mem_map.2 ⟨f, List.mem_of_getElem? hj, rfl⟩
        rw [← hv.map.2.1] at h1
        obtain ⟨x, hx, hxe⟩ := List.mem_map.1 h1
        simp only [Prod.mk.injEq] at hxe
        exact absurd hxe.1 (hno x hx)
      · have h6 := congrArg (fun l => l[i]?) hv.map.2.1
        simp only [List.getElem?_map, hi, Option.map_some] at h6
        cases hfi : fs[i]? with
        | none => rw [hfi] at h6; cases h6
        | some g =>
          rw [hfi] at h6
          simp only [Option.map_some, Option.some.injEq, Prod.mk.injEq] at h6
          have hgn : g.name = f.name := by
            have := h6.1.symm.trans hx
            injection this
          have hil : i < fs.length := (List.getElem?_eq_some_iff.1 hfi).1
          have hij : i = j := by
            have hnd := hv.map.2.2.1
            have e1 : (fs.map (·.name))[i]? = some f.name := by rw [List.getElem?_map, hfi, ← hgn]; rfl
            have e2 : (fs.map (·.name))[j]? = some f.name := by rw [List.getElem?_map, hj]; rfl
            exact (List.getElem?_inj (by simpa using hil) hnd).1 (e1.trans e2.symm)
          subst hij
          exact h
    · have hv' := hv.set hj (v := v') (cels := f.cels ++ [(b0, c')]) (by simp) (fun x hx => by
        rcases List.mem_append.1 hx with hx | hx
        · exact hv.cel_fine (List.mem_of_getElem? hj) hx
        · simp only [List.mem_singleton] at hx; subst hx; exact hc) (by rw [List.length_append]; simp only [List.length_cons, List.length_nil]; omega)
      rw [List.map_append] at hv'
      rw [hat]
      refine Sat.disk_close (m := m) hv' ?_
      show Sat E w (HP.dk d A.room A.fuse m _ _ (fs.set j ⟨f.name, v', f.cels ++ [(b0, c')]⟩) * q)
      unfold HP.dk
      rw [all_take (l := (fs.set j (⟨f.name, v', f.cels ++ [(b0, c')]⟩ : Fil)).map HP.fil) (j := j) (p := HP.fil ⟨f.name, v', f.cels ++ [(b0, c')]⟩) (by rw [List.getElem?_map, List.getElem?_set]; simp [hjl])]
      rw [List.map_set, List.eraseIdx_set_eq]
      have e1 : HP.fil ⟨f.name, v', f.cels ++ [(b0, c')]⟩ = HP.row 145 1 v' (f.cels.length + 1) (f.ptrs ++ [.pointer (some ⟨b0, 0, none⟩)]) * (HP.all (f.cels.map fun x => HP.cel x.1 x.2) * HP.cel b0 c') := by
        unfold HP.fil
        simp only [List.map_append, HP.all_append, List.map_cons, List.map_nil, HP.all, HP.mul_emp, Fil.ptrs, List.length_append, List.length_cons, List.length_nil]
      rw [e1]
      exact h.perm (by ac_rfl)
end Go.Proofs.YtnpinegpajbkeaaGreatDoor
