/- Texts of one claim, one behind the other: RefL3, RefN3, RefO3, RefP3, RefQ3. -/
import Derived.Test.YtnpinegpajbkeaaGreatDoorRi11
import Derived.Laws.Bits64
set_option linter.unusedSimpArgs false
set_option linter.unusedVariables false
namespace Go.Proofs.YtnpinegpajbkeaaGreatDoor
open Go.RowKit HP
def Cel.Byt (c : Cel) : Prop := Bytes c.read ∧ Bytes c.durable ∧ Bytes c.synced ∧ Bytes c.written
def Dk.Byt (A : Dk) : Prop := ∀ x ∈ A.files, ∀ c ∈ x.2, c.Byt
theorem z128_byt : Bytes z128 := fun x hx => by have := List.eq_of_mem_replicate hx; omega
theorem Dk.Byt.new (room : Int) : (Dk.new room).Byt := fun x hx => by cases hx
theorem Dk.Byt.at {A : Dk} (h : A.Byt) (s : ByteArray) : ∀ c ∈ A.at s, c.Byt := fun c hc => by
  unfold Dk.at at hc
  cases hl : lk A.files s with
  | none => rw [hl] at hc; cases hc
  | some l => rw [hl] at hc; exact h _ (lk_mem hl) c hc
theorem Dk.Byt.set {A : Dk} (h : A.Byt) {s : ByteArray} {l : List Cel} (hl : ∀ c ∈ l, c.Byt) : (A.set s l).Byt := fun x hx c hc => by
  rcases putF_mem hx with rfl | hx
  · exact hl c hc
  · exact h x hx c hc
theorem Dk.Byt.burnt {A : Dk} (h : A.Byt) : A.burnt.Byt := h
theorem Dk.Byt.fuse {A : Dk} (h : A.Byt) (u : Int) : ({ A with fuse := u } : Dk).Byt := h
theorem Cel.Byt.wrote {c : Cel} (h : c.Byt) {b : List Int} (hb : Bytes b) : (c.wrote b).Byt := ⟨hb, h.2.1, h.2.2.1, hb⟩
theorem Dk.Byt.write {A : Dk} (h : A.Byt) (s : ByteArray) (i : Int) {b : List Int} (hb : Bytes b) : (A.write s i b).2.Byt := by
  unfold Dk.write
  split
  · exact h
  · split
    · exact h.burnt
    · split
      · exact h.burnt
      · split
        · refine h.burnt.set fun c hc => ?_
          rcases List.mem_append.1 hc with hc | hc
          · exact h.at s c hc
          · rw [List.mem_singleton.1 hc]
            exact Cel.Byt.wrote ⟨z128_byt, z128_byt, z128_byt, z128_byt⟩ hb
        · refine h.burnt.set fun c hc => ?_
          obtain ⟨j, hj⟩ := List.getElem?_of_mem hc
          rw [List.getElem?_modify] at hj
          cases hg : (A.at s)[j]? with
          | none => rw [hg] at hj; cases hj
          | some c0 =>
            rw [hg] at hj
            have := h.at s c0 (List.mem_of_getElem? hg)
            simp only [Option.map_eq_map, Option.map_some, Option.some.injEq] at hj
            split at hj
            · subst hj; exact this.wrote hb
            · subst hj; exact this
theorem Dk.Byt.sync {A : Dk} (h : A.Byt) (s : ByteArray) : (A.sync s).2.Byt := by
  unfold Dk.sync
  cases hl : lk A.files s with
  | none => exact h
  | some l =>
    dsimp only
    split
    · exact h.burnt
    · refine h.burnt.set fun c hc => ?_
      obtain ⟨c0, hc0, rfl⟩ := List.mem_map.1 hc
      have := h _ (lk_mem hl) c0 hc0
      unfold Cel.syncd
      split
      · exact ⟨this.2.2.2, this.2.2.2, this.2.2.2, this.2.2.2⟩
      · exact this
theorem Dk.Byt.remove {A : Dk} (h : A.Byt) (s : ByteArray) : (A.remove s).2.Byt := by
  unfold Dk.remove
  cases hl : lk A.files s with
  | none => exact h
  | some l =>
    dsimp only
    split
    · exact h.burnt
    · exact fun x hx c hc => h x (List.mem_filter.1 hx).1 c hc
theorem xorAt_byt {l : List Int} (h : Bytes l) (k : Nat) {m : Int} (h0 : 0 ≤ m) (h1 : m ≤ 255) : Bytes (xorAt l k m) := fun x hx => by
  unfold xorAt at hx
  rcases List.mem_or_eq_of_mem_set hx with hx | rfl
  · exact h x hx
  · have hg : 0 ≤ l.getD k 0 ∧ l.getD k 0 ≤ 255 := by
      unfold List.getD
      cases hk : l[k]? with
      | none => simp
      | some x => exact h x (List.mem_of_getElem? hk)
    unfold xorB
    rw [u8_xor _ m hg.1 (by omega) h0 (by omega)]
    have := Nat.xor_lt_two_pow (n := 8) (x := (l.getD k 0).toNat) (y := m.toNat) (by omega) (by omega)
    omega
theorem Dk.Byt.rot {A : Dk} (h : A.Byt) (s : ByteArray) (i a : Int) {m : Int} (h0 : 0 ≤ m) (h1 : m ≤ 255) : (A.rot s i a m).2.Byt := by
  unfold Dk.rot
  cases hc : A.cel s i with
  | none => exact h
  | some c =>
    dsimp only
    split
    · exact h
    · refine h.set fun c' hc' => ?_
      have hcm : c ∈ A.at s := by
        unfold Dk.cel at hc
        split at hc
        · exact List.mem_of_getElem? hc
        · cases hc
      rcases List.mem_or_eq_of_mem_set hc' with hc' | rfl
      · exact h.at s c' hc'
      · have := h.at s c hcm
        unfold Cel.rotd
        split
        · exact ⟨this.1, xorAt_byt this.2.1 _ h0 h1, this.2.2.1, this.2.2.2⟩
        · exact ⟨xorAt_byt this.1 _ h0 h1, xorAt_byt this.2.1 _ h0 h1, this.2.2.1, this.2.2.2⟩
theorem Dk.Byt.crash {A : Dk} (h : A.Byt) (K : List Kep) : (A.crash K).Byt := fun x hx c hc => by
  obtain ⟨y, hy, rfl⟩ := List.mem_map.1 hx
  unfold crashL at hc
  obtain ⟨j, hj⟩ := List.getElem?_of_mem hc
  rw [List.getElem?_mapIdx] at hj
  cases hg : y.2[j]? with
  | none => rw [hg] at hj; cases hj
  | some c0 =>
    rw [hg] at hj
    simp only [Option.map_some, Option.some.injEq] at hj
    subst hj
    have := h y hy c0 (List.mem_of_getElem? hg)
    unfold Cel.crashd
    split
    · have hm : Bytes (c0.written.take (keepOf K y.1 j).toNat ++ c0.durable.drop (keepOf K y.1 j).toNat) := fun x hx => by
        rcases List.mem_append.1 hx with hx | hx
        · exact this.2.2.2 x (List.mem_of_mem_take hx)
        · exact this.2.1 x (List.mem_of_mem_drop hx)
      exact ⟨hm, hm, this.2.2.1, this.2.2.2⟩
    · exact this
theorem RView.ins {A : Dk} {fs : List RF} {L L' : List (Value × List Int)} (hv : RView A fs L) {name : ByteArray} {k : Nat} (hb : ∀ j < k, ∀ g, fs[j]? = some g → ltN g.name name = true) (hk : k ≤ fs.length) (ha : ∀ g, fs[k]? = some g → g.name ≠ name ∧ ltN g.name name = false)
    (val : Value) (cs : List RC) (hn : namedB name = true) (hne : cs ≠ []) (hc : ∀ x ∈ cs, x.In L' ∧ x.c.Fine) (hL : ∀ z ∈ L, z ∈ L') (hz : sizeF (putF A.files name (cs.map (·.c))) ≤ A.room) :
    RView (A.set name (cs.map (·.c))) (fs.take k ++ (⟨name, val, cs⟩ : RF) :: fs.drop k) L' := by
  have hput : putF A.files name (cs.map (·.c)) = A.files.take k ++ (name, cs.map (·.c)) :: A.files.drop k := by
    refine putF_new (fun j hj x hx => ?_) (by rw [← hv.len]; exact hk) (fun x hx => ?_)
    · rw [← hv.same, List.getElem?_map] at hx
      cases hg : fs[j]? with
      | none => rw [hg] at hx; cases hx
      | some g => rw [hg] at hx; cases hx; exact hb j hj g hg
    · rw [← hv.same, List.getElem?_map] at hx
      cases hg : fs[k]? with
      | none => rw [hg] at hx; cases hx
      | some g => rw [hg] at hx; cases hx; exact ha g hg
  refine ⟨?_, ?_, ?_⟩
  · unfold Dk.set
    rw [hput, ← hv.same, List.map_append, List.map_cons, List.map_take, List.map_drop]
  · intro f hf x hx
    have mono : ∀ {z : RC}, z.In L → z.In L' := fun h => ⟨hL _ h.1, hL _ h.2.1, hL _ h.2.2.1, hL _ h.2.2.2⟩
    rcases List.mem_append.1 hf with hf | hf
    · exact mono (hv.imgs f (List.mem_of_mem_take hf) x hx)
    · rcases List.mem_cons.1 hf with rfl | hf
      · exact (hc x hx).1
      · exact mono (hv.imgs f (List.mem_of_mem_drop hf) x hx)
  · refine Dk.Fine.set hv.fine hn (by simpa using hne) (fun c hcm => ?_) hz
    obtain ⟨x, hx, rfl⟩ := List.mem_map.1 hcm
    exact (hc x hx).2
def crP (K : List Kep) (s : ByteArray) (l : List Cel) (i : Nat) : List Cel := crashL K s (l.take i) ++ l.drop i
theorem crashL_len (K : List Kep) (s : ByteArray) (l : List Cel) : (crashL K s l).length = l.length := by unfold crashL; rw [List.length_mapIdx]
theorem crP_zero (K : List Kep) (s : ByteArray) (l : List Cel) : crP K s l 0 = l := by simp [crP, crashL]
theorem crP_end {K : List Kep} {s : ByteArray} {l : List Cel} : crP K s l l.length = crashL K s l := by simp [crP]
theorem crP_step {K : List Kep} {s : ByteArray} {l : List Cel} {i : Nat} {c : Cel} (h : l[i]? = some c) : (crP K s l i)[i]? = some c ∧ (crP K s l i).set i (c.crashd (keepOf K s i)) = crP K s l (i + 1) := by
  obtain ⟨hi, rfl⟩ := List.getElem?_eq_some_iff.1 h
  have hlen : (crashL K s (l.take i)).length = i := by rw [crashL_len, List.length_take]; omega
  unfold crP
  constructor
  · rw [List.getElem?_append_right (by omega), hlen, Nat.sub_self, List.getElem?_drop, Nat.add_zero, h]
  · rw [List.set_append_right _ _ (by omega), hlen, Nat.sub_self, List.drop_eq_getElem_cons hi, List.set_cons_zero, List.take_succ_eq_append_getElem hi]
    have e : crashL K s (l.take i ++ [l[i]]) = crashL K s (l.take i) ++ [l[i].crashd (keepOf K s i)] := by
      unfold crashL
      rw [List.mapIdx_append]
      simp [List.length_take, Nat.min_eq_left (Nat.le_of_lt hi)]
    rw [e, List.append_assoc]
    rfl
theorem Sat.rdk_ins {E : Env} {w : World} {q : HP} {y N k : Nat} {room fuse : Int} {v V : Value} {fs : List RF} {L : List (Value × List Int)} (name : ByteArray) (hN : N = (fs.take k ++ (⟨name, .slice none 0 0, []⟩ : RF) :: fs.drop k).length)
    (h : Sat E w (HP.row 174 2 V N ((fs.take k).flatMap RF.vals ++ [.string name, .slice none 0 0] ++ (fs.drop k).flatMap RF.vals) * (HP.rdk y room fuse v fs L * q))) :
    Sat E (w.setCell ⟨y, 1, none⟩ V) (HP.rdk y room fuse V (fs.take k ++ (⟨name, .slice none 0 0, []⟩ : RF) :: fs.drop k) L * q) := by
  refine Sat.rdk_files (v := v) hN ?_
  have ec : (fs.take k ++ (⟨name, .slice none 0 0, []⟩ : RF) :: fs.drop k).flatMap RF.vals = (fs.take k).flatMap RF.vals ++ [.string name, .slice none 0 0] ++ (fs.drop k).flatMap RF.vals := by
    rw [List.flatMap_append, List.flatMap_cons, List.append_assoc]
    rfl
  have e : HP.all ((fs.take k ++ (⟨name, .slice none 0 0, []⟩ : RF) :: fs.drop k).map HP.rcs) = HP.row 176 5 (.slice none 0 0) 0 [] * HP.all (fs.map HP.rcs) := by
    have e1 : HP.all (fs.map HP.rcs) = HP.all ((fs.take k).map HP.rcs) * HP.all ((fs.drop k).map HP.rcs) := by
      rw [← HP.all_append, ← List.map_append, List.take_append_drop]
    rw [List.map_append, List.map_cons, HP.all_append, HP.all_cons, e1]
    have e2 : HP.rcs (⟨name, .slice none 0 0, []⟩ : RF) = HP.row 176 5 (.slice none 0 0) 0 [] := rfl
    rw [e2]
    ac_rfl
  rw [ec, e]
  have h1 := h.row_nil 176 5 none
  unfold HP.rdk at h1
  exact (h1.perm (by ac_rfl : _ = HP.row 174 2 v fs.length (fs.flatMap RF.vals) * (HP.row 174 2 V N ((fs.take k).flatMap RF.vals ++ [.string name, .slice none 0 0] ++ (fs.drop k).flatMap RF.vals) * (HP.pt y (.cells #[.int .i64 room, v, .int .i64 fuse] 158) * ((HP.row 176 5 (.slice none 0 0) 0 [] * HP.all (fs.map HP.rcs)) * (HP.imgs L * q)))))).right
end Go.Proofs.YtnpinegpajbkeaaGreatDoor
namespace Go.Proofs.YtnpinegpajbkeaaGreatDoor
open Go.RowKit HP
structure WrR (B : Dk) (name : ByteArray) (k : Nat) (fs : List RF) (f : RF) (L : List (Value × List Int)) : Prop where
  at_ : fs[k]? = some f
  nm : f.name = name
  cels : f.cs.map (·.c) = B.at name
  fine : ∀ x ∈ f.cs, x.c.Fine
  imgs : ∀ x ∈ f.cs, x.In L
  put : ∀ (val : Value) (cs : List RC) (L' : List (Value × List Int)), cs ≠ [] → (∀ x ∈ cs, x.In L' ∧ x.c.Fine) → (∀ z ∈ L, z ∈ L') → (sizeF (putF B.files name (cs.map (·.c))) : Int) ≤ B.room →
    RView (B.set name (cs.map (·.c))) (fs.set k (⟨name, val, cs⟩ : RF)) L'
theorem rc_mono {L L' : List (Value × List Int)} (hL : ∀ z ∈ L, z ∈ L') {z : RC} (h : z.In L) : z.In L' := ⟨hL _ h.1, hL _ h.2.1, hL _ h.2.2.1, hL _ h.2.2.2⟩
section
variable {B : Dk} {fs : List RF} {L : List (Value × List Int)} {name : ByteArray} {k : Nat}
theorem RView.cs_fine (hv : RView B fs L) {f : RF} (hf : f ∈ fs) : ∀ x ∈ f.cs, x.c.Fine := fun x hx => by
  have hm : (f.name, f.cs.map (·.c)) ∈ B.files := by rw [← hv.same]; exact List.mem_map.2 ⟨f, hf, rfl⟩
  exact hv.fine.cels _ hm x.c (List.mem_map.2 ⟨x, hx, rfl⟩)
theorem WrR.old (hv : RView B fs L) {f : RF} (hk : fs[k]? = some f) (hn : f.name = name) : WrR B name k fs f L := by
  have hkB : B.files[k]? = some (name, f.cs.map (·.c)) := by rw [← hv.same, List.getElem?_map, hk, ← hn]; rfl
  have hm : (name, f.cs.map (·.c)) ∈ B.files := List.mem_of_getElem? hkB
  have hmf := List.mem_of_getElem? hk
  refine ⟨hk, hn, ?_, hv.cs_fine hmf, hv.imgs f hmf, fun val cs L' hne hc hL hz => ⟨?_, ?_, ?_⟩⟩
  · unfold Dk.at; rw [lk_first hv.fine.sorted hkB]; rfl
  · unfold Dk.set
    rw [putF_at hv.fine.sorted hkB, ← hv.same, List.map_set]
  · intro f' hf' x hx
    rcases List.mem_or_eq_of_mem_set hf' with hf' | rfl
    · exact rc_mono hL (hv.imgs f' hf' x hx)
    · exact (hc x hx).1
  · refine Dk.Fine.set hv.fine (hv.fine.named _ hm).1 (by simpa using hne) (fun c hcm => ?_) (by exact_mod_cast hz)
    obtain ⟨x, hx, rfl⟩ := List.mem_map.1 hcm
    exact (hc x hx).2
theorem WrR.new (hv : RView B fs L) (hb : ∀ j < k, ∀ g, fs[j]? = some g → ltN g.name name = true) (hk : k ≤ fs.length) (ha : ∀ g, fs[k]? = some g → g.name ≠ name ∧ ltN g.name name = false) (hno : ∀ f ∈ fs, f.name ≠ name) (hnm : namedB name = true) :
    WrR B name k (fs.take k ++ (⟨name, .slice none 0 0, []⟩ : RF) :: fs.drop k) ⟨name, .slice none 0 0, []⟩ L := by
  have hlen : (fs.take k).length = k := by rw [List.length_take]; omega
  refine ⟨?_, rfl, ?_, (fun x hx => by cases hx), (fun x hx => by cases hx), fun val cs L' hne hc hL hz => ?_⟩
  · rw [List.getElem?_append_right (by omega), hlen, Nat.sub_self]; rfl
  · rw [hv.at_none hno]; rfl
  · have h := hv.ins hb hk ha val cs hnm hne hc hL (by exact_mod_cast hz)
    rw [List.set_append_right _ _ (by omega), hlen, Nat.sub_self, List.set_cons_zero]
    exact h
structure WrS (R : Dk) (b : List Int) (k i : Nat) (fs : List RF) (f : RF) (x : RC) (L : List (Value × List Int)) : Prop where
  at_ : fs[k]? = some f
  ix : f.cs[i]? = some x
  fin : ∀ (x' : RC) (L' : List (Value × List Int)), x'.c = ⟨b, x.c.durable, x.c.synced, b, true⟩ → x'.vd = x.vd → x'.vs = x.vs → (x'.vr, b) ∈ L' → (x'.vw, b) ∈ L' → (∀ z ∈ L, z ∈ L') → RView R (setRC fs k i x') L'
theorem WrR.in_place {f : RF} (h : WrR B name k fs f L) {i : Nat} {x : RC} (hi : f.cs[i]? = some x) {b : List Int} (hb : b.length = 128) (hs : Sorted B.files) (hz : (sizeF B.files : Int) ≤ B.room) :
    WrS (B.set name ((B.at name).modify i fun c => c.wrote b)) b k i fs f x L := by
  have hil := (List.getElem?_eq_some_iff.1 hi).1
  have hxm := List.mem_of_getElem? hi
  refine ⟨h.at_, hi, fun x' L' hc hd hs' hr hw hL => ?_⟩
  have hcs : (B.at name).modify i (fun c => c.wrote b) = (f.cs.set i x').map (·.c) := by
    rw [← h.cels, List.map_set, hc]
    apply List.ext_getElem?
    intro j
    rw [List.getElem?_modify, List.getElem?_set, List.getElem?_map]
    by_cases hj : i = j
    · subst hj
      rw [hi]
      simp [hil, Cel.wrote]
    · simp [hj]
  rw [hcs, setRC_get h.at_]
  have he : ({ f with cs := f.cs.set i x' } : RF) = ⟨name, f.val, f.cs.set i x'⟩ := by rw [← h.nm]
  rw [he]
  refine h.put f.val (f.cs.set i x') L' ?_ ?_ hL ?_
  · intro h0
    have := congrArg List.length h0
    rw [List.length_set] at this
    simp at this
    rw [this] at hil
    simp at hil
  · intro z hz
    rcases List.mem_or_eq_of_mem_set hz with hz | rfl
    · exact ⟨rc_mono hL (h.imgs z hz), h.fine z hz⟩
    · have hf := h.fine x hxm
      have hin := rc_mono hL (h.imgs x hxm)
      refine ⟨⟨by rw [hc]; exact hr, by rw [hc, hd]; exact hin.2.1, by rw [hc, hs']; exact hin.2.2.1, by rw [hc]; exact hw⟩, ?_⟩
      rw [hc]
      exact ⟨hb, hf.2.1, hf.2.2.1, hb⟩
  · have hp := sizeF_put hs name ((f.cs.set i x').map (·.c))
    have hat : (B.at name).length = f.cs.length := by rw [← h.cels, List.length_map]
    unfold Dk.at at hat
    rw [hat, List.length_map, List.length_set] at hp
    have : sizeF (putF B.files name ((f.cs.set i x').map (·.c))) = sizeF B.files := by omega
    rw [this]; exact hz
def freshRC (D S : Value) : RC := ⟨⟨[], z128, z128, [], false⟩, .slice none 0 0, D, S, .slice none 0 0⟩
theorem WrR.behind {f : RF} (h : WrR B name k fs f L) {b : List Int} (hb : b.length = 128) (hs : Sorted B.files) (hz : (sizeF B.files : Int) + 1 ≤ B.room) (V D S : Value) :
    WrS (B.set name (B.at name ++ [Cel.zero.wrote b])) b k f.cs.length (fs.set k ⟨name, V, f.cs ++ [freshRC D S]⟩) ⟨name, V, f.cs ++ [freshRC D S]⟩ (freshRC D S) ((D, z128) :: (S, z128) :: L) := by
  refine ⟨List.getElem?_set_self (List.getElem?_eq_some_iff.1 h.at_).1, by rw [List.getElem?_append_right (Nat.le_refl _), Nat.sub_self]; rfl, fun x' L' hc hd hs' hr hw hL => ?_⟩
  have hcs : B.at name ++ [Cel.zero.wrote b] = (f.cs ++ [x']).map (·.c) := by
    rw [← h.cels, List.map_append, List.map_cons, List.map_nil, hc]; rfl
  have hk := (List.getElem?_eq_some_iff.1 h.at_).1
  rw [setRC_get (List.getElem?_set_self hk), List.set_set, hcs]
  have he : (f.cs ++ [freshRC D S]).set f.cs.length x' = f.cs ++ [x'] := by rw [List.set_append_right _ _ (Nat.le_refl _), Nat.sub_self, List.set_cons_zero]
  show RView _ (fs.set k ⟨name, V, (f.cs ++ [freshRC D S]).set f.cs.length x'⟩) L'
  rw [he]
  have hL2 : ∀ z ∈ L, z ∈ L' := fun z hz => hL z (List.mem_cons_of_mem _ (List.mem_cons_of_mem _ hz))
  refine h.put V (f.cs ++ [x']) L' (by simp) ?_ hL2 ?_
  · intro z hz
    rcases List.mem_append.1 hz with hz | hz
    · exact ⟨rc_mono hL2 (h.imgs z hz), h.fine z hz⟩
    · obtain rfl := List.mem_singleton.1 hz
      refine ⟨⟨by rw [hc]; exact hr, by rw [hc, hd]; exact hL _ (List.mem_cons_self ..), by rw [hc, hs']; exact hL _ (List.mem_cons_of_mem _ (List.mem_cons_self ..)), by rw [hc]; exact hw⟩, ?_⟩
      rw [hc]
      exact ⟨hb, rfl, rfl, hb⟩
  · have hp := sizeF_put hs name ((f.cs ++ [x']).map (·.c))
    have hat : (B.at name).length = f.cs.length := by rw [← h.cels, List.length_map]
    unfold Dk.at at hat
    rw [hat, List.length_map, List.length_append] at hp
    have : sizeF (putF B.files name ((f.cs ++ [x']).map (·.c))) = sizeF B.files + 1 := by simp at hp ⊢; omega
    rw [this]
    have := hz
    push_cast
    exact hz
theorem WrR.behind' {f : RF} (h : WrR B name k fs f L) {b : List Int} (hb : b.length = 128) (hs : Sorted B.files) (hz : (sizeF B.files : Int) + 1 ≤ B.room) (V D S : Value) {j : Nat} (hj : j = f.cs.length) {R : Dk} (hR : R = B.set name (B.at name ++ [Cel.zero.wrote b])) :
    WrS R b k j (fs.set k ⟨f.name, V, f.cs ++ [freshRC D S]⟩) ⟨f.name, V, f.cs ++ [freshRC D S]⟩ (freshRC D S) ((D, z128) :: (S, z128) :: L) := by
  subst hj hR
  rw [h.nm]
  exact h.behind hb hs hz V D S
end
def HP.rdkX (y : Nat) (room fuse : Int) (v : Value) (fs : List RF) (L : List (Value × List Int)) (k : Nat) : HP :=
  HP.pt y (.cells #[.int .i64 room, v, .int .i64 fuse] 158) * (HP.row 174 2 v fs.length (fs.flatMap RF.vals) * (HP.all ((fs.map HP.rcs).eraseIdx k) * HP.imgs L))
section
variable {E : Env} {w : World} {q : HP} {y : Nat} {room fuse : Int} {v : Value} {fs : List RF} {L : List (Value × List Int)} {k : Nat} {f : RF} {g o n cF : Nat}
theorem Sat.rdk_out (hk : fs[k]? = some f) (h : Sat E w (HP.rdk y room fuse v fs L * q)) : Sat E w (HP.row 176 5 f.val f.cs.length (f.cs.flatMap RC.vals) * (HP.rdkX y room fuse v fs L k * q)) := by
  have h2 := h.rdk_parts.s3
  have hm : (fs.map HP.rcs)[k]? = some (HP.rcs f) := by rw [List.getElem?_map, hk]; rfl
  rw [all_take hm] at h2
  unfold HP.rcs at h2
  unfold HP.rdkX
  exact h2.perm (by unfold HP.rcs; ac_rfl)
theorem Sat.rdkX_cells (hn : n = fs.length) (hk : fs[k]? = some f) (h : Sat E w (HP.rdkX y room fuse (.slice (some ⟨g, o, none⟩) n cF) fs L k * q)) : w.cell? ⟨y, 1, none⟩ = some (.slice (some ⟨g, o, none⟩) n cF) ∧ w.cell? ⟨g, o + k * 2 + 1, none⟩ = some f.val ∧ w.frozen? ⟨g, o + k * 2 + 1, none⟩ = false := by
  unfold HP.rdkX at h
  have h1 : Sat E w (HP.pt y (.cells #[.int .i64 room, .slice (some ⟨g, o, none⟩) n cF, .int .i64 fuse] 158) * (HP.row 174 2 (.slice (some ⟨g, o, none⟩) n cF) n (fs.flatMap RF.vals) * ((HP.all ((fs.map HP.rcs).eraseIdx k) * HP.imgs L) * q))) := by
    rw [hn] at h ⊢; exact h.perm (by ac_rfl)
  obtain ⟨e0, e1⟩ := rf_get hk
  have c1 := h1.s2.row_cell _ _ e1
  have z1 := h1.s2.row_thaw (k * 2 + 1) (List.getElem?_eq_some_iff.1 e1).1
  rw [← Nat.add_assoc] at c1 z1
  exact ⟨by have := h1.cell 1; simpa using this, c1, z1⟩
theorem Sat.rdk_grow (hn : n = fs.length) (hk : fs[k]? = some f) {V D S : Value} {m : Nat} (hm : m = f.cs.length + 1) (h : Sat E w (HP.row 176 5 V m (f.cs.flatMap RC.vals ++ (freshRC D S).vals) * (HP.rdkX y room fuse (.slice (some ⟨g, o, none⟩) n cF) fs L k * (HP.row 5 1 D 128 (b8s z128) * (HP.row 5 1 S 128 (b8s z128) * q))))) :
    Sat E (w.setCell ⟨g, o + k * 2 + 1, none⟩ V) (HP.rdk y room fuse (.slice (some ⟨g, o, none⟩) n cF) (fs.set k ⟨f.name, V, f.cs ++ [freshRC D S]⟩) ((D, z128) :: (S, z128) :: L) * q) := by
  obtain ⟨X, hX⟩ : ∃ X, X = HP.row 176 5 V m (f.cs.flatMap RC.vals ++ (freshRC D S).vals) := ⟨_, rfl⟩
  rw [← hX] at h
  unfold HP.rdkX at h
  have h1 : Sat E w (HP.row 174 2 (.slice (some ⟨g, o, none⟩) n cF) n (fs.flatMap RF.vals) * (HP.pt y (.cells #[.int .i64 room, .slice (some ⟨g, o, none⟩) n cF, .int .i64 fuse] 158) * (X * (HP.all ((fs.map HP.rcs).eraseIdx k) * (HP.imgs L * (HP.row 5 1 D 128 (b8s z128) * (HP.row 5 1 S 128 (b8s z128) * q))))))) := by
    rw [hn] at h ⊢; exact h.perm (by ac_rfl)
  obtain ⟨e0, e1⟩ := rf_get hk
  have h2 := h1.row_set (k * 2 + 1) (List.getElem?_eq_some_iff.1 e1).1 V
  rw [← Nat.add_assoc] at h2
  have ef := flat_set RF.vals 2 (fun _ => rfl) fs k 1 f (⟨f.name, V, f.cs ++ [freshRC D S]⟩ : RF) V hk (by omega) rfl
  rw [← ef] at h2
  have hkl := (List.getElem?_eq_some_iff.1 hk).1
  have e2 : HP.all ((fs.set k (⟨f.name, V, f.cs ++ [freshRC D S]⟩ : RF)).map HP.rcs) = X * HP.all ((fs.map HP.rcs).eraseIdx k) := by
    rw [all_take (j := k) (p := HP.rcs (⟨f.name, V, f.cs ++ [freshRC D S]⟩ : RF)) (by rw [List.getElem?_map, List.getElem?_set_self hkl]; rfl), List.map_set, List.eraseIdx_set_eq]
    congr 1
    unfold HP.rcs
    rw [hX]
    show HP.row _ 5 V (f.cs ++ [freshRC D S]).length ((f.cs ++ [freshRC D S]).flatMap RC.vals) = _
    rw [List.length_append, List.flatMap_append, hm]
    simp
  have h3 : Sat E (w.setCell ⟨g, o + k * 2 + 1, none⟩ V) (HP.rdk y room fuse (.slice (some ⟨g, o, none⟩) n cF) (fs.set k ⟨f.name, V, f.cs ++ [freshRC D S]⟩) L * (HP.row 5 1 S 128 (b8s z128) * (HP.row 5 1 D 128 (b8s z128) * q))) := by
    unfold HP.rdk
    rw [List.length_set, e2, ← hn]
    exact h2.perm (by ac_rfl)
  have h4 := Sat.rdk_imgs_in (z := (S, z128)) h3
  exact Sat.rdk_imgs_in (z := (D, z128)) h4
end
end Go.Proofs.YtnpinegpajbkeaaGreatDoor
