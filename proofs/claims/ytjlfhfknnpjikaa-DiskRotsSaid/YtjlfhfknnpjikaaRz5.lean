/- Texts of one claim, one behind the other: DiskM, DiskRo, PTie. -/
import Derived.Test.YtjlfhfknnpjikaaRz4
/- What calls make of a disk: plain lemmas. -/
namespace Go.Proofs.Ytjlfhfknnpjikaa
open Go.RowKit HP
set_option linter.unusedSimpArgs false
set_option linter.unusedVariables false

def Dk.new (room : Int) : Dk := ⟨room, -1, []⟩
theorem Dk.new_fine {room : Int} (h : 0 ≤ room ∧ room ≤ 100000) : (Dk.new room).Fine :=
  ⟨List.Pairwise.nil, (fun x hx => by cases hx), (fun x hx => by cases hx), h, ⟨by show (-1 : Int) ≤ -1; omega, by show (-1 : Int) ≤ _; omega⟩, h.1⟩
theorem View.new {room : Int} (h : 0 ≤ room ∧ room ≤ 100000) : View (Dk.new room) #[] 0 [] :=
  ⟨⟨(fun x hx => by simp at hx), rfl, by simp, (fun x hx => by simp at hx), by simp⟩, fun s => rfl, Dk.new_fine h⟩
theorem disk_new_ok (E : Env) (q : HP) (room : Int) (w : World) (h : 0 ≤ room ∧ room ≤ 100000) (hw : Sat E w q) :
    Calls Try.prog 10 #[.int .i64 room] w fun e w' => ∃ d, e = .returned (.tuple #[.pointer (some ⟨d, 0, none⟩), .int .i64 0]) ∧ Sat E w' (HP.disk d (Dk.new room) * q) :=
  (disk_new E q room w h.1 h.2 hw).mono fun e w' ⟨d, m, he, hs⟩ => ⟨d, he, Sat.disk_close (m := m) (View.new h) (hs.perm (by
    unfold HP.dk
    simp only [List.map_nil, HP.all, HP.mul_emp]
    show _ = HP.dsk d room (-1) m * HP.pt m (.map #[] 0) * q
    rw [HP.mul_assoc]))⟩

section
variable {A : Dk} {s t : ByteArray} {i : Int} {b : List Int} {l : List Cel}
theorem at_set (hs : Sorted A.files) (l : List Cel) : (A.set s l).at t = if s = t then l else A.at t := by
  unfold Dk.at Dk.set
  rw [lk_put _ _ _ hs]
  split <;> rfl
theorem lk_set (hs : Sorted A.files) (l : List Cel) : lk (A.set s l).files t = if s = t then some l else lk A.files t := lk_put _ _ _ hs
theorem burnt_forever (h : A.fuse = -1) : A.burnt = A := by
  unfold Dk.burnt burnI
  rw [h]
  simp only [gt_iff_lt, Int.reduceNeg, Int.reduceLT, if_false]
  cases A
  simp only at h
  rw [h]
theorem goes_forever (h : A.fuse = -1) : A.goes = true := by
  unfold Dk.goes burnI
  rw [h]; rfl
theorem write_first (hn : namedB s = true) (hb : b.length = 128) (hat : A.at s = []) (hf : 0 < A.free) (hg : A.goes = true) : A.write s 0 b = (0, A.burnt.set s [Cel.zero.wrote b]) := by
  unfold Dk.write
  rw [if_neg (by simp [hn, hb, hat]), if_neg (by simp [hg]), if_neg (by omega), if_pos (by simp [hat]), hat]
  rfl
theorem write_other (hs : Sorted A.files) (hne : s ≠ t) : lk (A.write s i b).2.files t = lk A.files t := by
  unfold Dk.write
  split
  · rfl
  · split
    · rfl
    · split
      · rfl
      · split
        · show lk (A.burnt.set s _).files t = _
          rw [lk_set (A := A.burnt) hs, if_neg hne]; rfl
        · show lk (A.burnt.set s _).files t = _
          rw [lk_set (A := A.burnt) hs, if_neg hne]; rfl
theorem write_forever (h : A.fuse = -1) : (A.write s i b).2.fuse = -1 := by
  have e := burnt_forever h
  unfold Dk.write
  rw [e]
  split
  · exact h
  · split
    · exact h
    · split
      · exact h
      · split <;> exact h
theorem sync_some (hl : lk A.files s = some l) (hg : A.goes = true) : A.sync s = (0, A.burnt.set s (l.map Cel.syncd)) := by
  unfold Dk.sync
  rw [hl]
  simp [hg]
theorem cel_at (hl : lk A.files s = some l) (k : Nat) : A.cel s k = l[k]? := by
  unfold Dk.cel Dk.at
  rw [if_pos (by omega), hl]; rfl
end
theorem celAt_view {A : Dk} {es : Array MapEntry} {clock : Nat} {fs : List Fil} (hv : View A es clock fs) (s : ByteArray) (i : Int) : (celAt fs s i).map (·.2) = A.cel s i := by
  have h := hv.same s
  unfold celAt Dk.cel Dk.at
  unfold lkF at h
  cases hf : fs.find? (fun f => decide (f.name = s)) with
  | none =>
    rw [hf] at h
    rw [← h]
    simp
  | some f =>
    rw [hf] at h
    simp only [Option.map_some] at h
    rw [← h]
    simp only [Option.getD_some]
    by_cases h0 : 0 ≤ i
    · rw [if_pos h0]
      by_cases h1 : i < f.cels.length
      · rw [if_pos ⟨h0, h1⟩, Fil.cs, List.getElem?_map]
      · rw [if_neg (fun h => h1 h.2), Fil.cs, List.getElem?_map, List.getElem?_eq_none (by omega)]
    · rw [if_neg h0, if_neg (fun h => h0 h.1)]; rfl
def readEnd (E : Env) (q : HP) (r : Option Cel) (e : Ending) (w' : World) : Prop :=
  match r with
  | none => e = .returned (.tuple #[.slice none 0 0, .int .i64 30]) ∧ Sat E w' q
  | some c => ∃ v, e = .returned (.tuple #[v, .int .i64 0]) ∧ Sat E w' (HP.row 5 1 v 128 (b8s c.read) * q)
theorem disk_read_ok (E : Env) (q : HP) (d : Nat) (A : Dk) (name : ByteArray) (i : Int) (w : World) (hn : name.size ≤ maxLen) (hw : Sat E w (HP.disk d A * q)) :
    Calls Try.prog 14 #[.pointer (some ⟨d, 0, none⟩), .string name, .int .i64 i] w (readEnd E (HP.disk d A * q) (A.cel name i)) := by
  obtain ⟨m, es, clock, fs, hv, hd⟩ := hw.disk_open
  refine (disk_read E q d A.room A.fuse m es clock fs name i w hn hv.map hv.good hd).mono fun e w' h => ?_
  rw [← celAt_view hv]
  unfold readPost at h
  unfold readEnd
  cases hc : celAt fs name i with
  | none => rw [hc] at h; exact ⟨h.1, Sat.disk_close hv h.2⟩
  | some x =>
    rw [hc] at h
    obtain ⟨v, he, hs⟩ := h
    exact ⟨v, he, (Sat.disk_close (q := HP.row 5 1 v 128 (b8s x.2.read) * q) hv (hs.perm (HP.left_comm _ _ _))).perm (HP.left_comm _ _ _)⟩
/-- Elements of several cells. -/
theorem flat_get {α : Type} (f : α → List Value) (n : Nat) (l : List α) (hn : ∀ x, (f x).length = n) (i k : Nat) (x : α) (h : l[i]? = some x) (hk : k < n) : (l.flatMap f)[i * n + k]? = (f x)[k]? := by
  induction l generalizing i with
  | nil => simp at h
  | cons y l ih =>
    rw [List.flatMap_cons]
    cases i with
    | zero =>
      simp only [List.getElem?_cons_zero, Option.some.injEq] at h
      subst h
      rw [Nat.zero_mul, Nat.zero_add, List.getElem?_append_left (by rw [hn]; exact hk)]
    | succ i =>
      simp only [List.getElem?_cons_succ] at h
      rw [List.getElem?_append_right (by rw [hn, Nat.add_mul]; omega), hn, ← ih i h]
      congr 1
      rw [Nat.add_mul, Nat.one_mul]
      omega
theorem StepV.vals_length (s : StepV) : s.vals.length = 8 := rfl
end Go.Proofs.Ytjlfhfknnpjikaa
/- (*Disk).Rot. -/
namespace Go.Proofs.Ytjlfhfknnpjikaa
open Go.RowKit HP
set_option linter.unusedSimpArgs false
set_option linter.unusedVariables false

/-- Two bytes xored. -/
def xorB (a b : Int) : Int := bits .xor .u8 a b
def xorAt (l : List Int) (k : Nat) (m : Int) : List Int := l.set k (xorB (l.getD k 0) m)
theorem xorAt_length (l : List Int) (k : Nat) (m : Int) : (xorAt l k m).length = l.length := List.length_set
def Cel.rotd (c : Cel) (k : Nat) (m : Int) : Cel := if c.waits then { c with durable := xorAt c.durable k m } else { c with read := xorAt c.read k m, durable := xorAt c.durable k m }
theorem Cel.rotd_fine {c : Cel} (h : c.Fine) (k : Nat) (m : Int) : (c.rotd k m).Fine := by
  unfold Cel.rotd
  split
  · exact ⟨h.1, (xorAt_length _ _ _).trans h.2.1, h.2.2.1, h.2.2.2⟩
  · exact ⟨(xorAt_length _ _ _).trans h.1, (xorAt_length _ _ _).trans h.2.1, h.2.2.1, h.2.2.2⟩
def Dk.rot (A : Dk) (s : ByteArray) (i at_ m : Int) : Int × Dk :=
  match A.cel s i with
  | none => (30, A)
  | some c => if at_ < 0 ∨ 128 ≤ at_ then (1, A) else (0, A.set s ((A.at s).set i.toNat (c.rotd at_.toNat m)))
theorem celAt_some {fs : List Fil} {s : ByteArray} {i : Int} {x : Nat × Cel} (h : celAt fs s i = some x) : ∃ (j : Nat) (f : Fil) (k : Nat), fs[j]? = some f ∧ f.name = s ∧ i = (k : Int) ∧ f.cels[k]? = some x := by
  unfold celAt at h
  cases hf : fs.find? (fun f => decide (f.name = s)) with
  | none => rw [hf] at h; cases h
  | some f =>
    rw [hf] at h
    dsimp only at h
    split at h
    · rename_i hi
      obtain ⟨j, hj⟩ := List.getElem?_of_mem (List.mem_of_find?_eq_some hf)
      have hn := List.find?_some hf
      simp only [decide_eq_true_eq] at hn
      exact ⟨j, f, i.toNat, hj, hn, by omega, h⟩
    · cases h
section
variable {E : Env} {q : HP} {w : World} {b : Nat} {c : Cel}
theorem cel_byte_read (h : Sat E w (HP.cel b c * q)) (hf : c.Fine) {k : Nat} (hk : k < 128) : w.cell? ⟨b, k, none⟩ = some (.int .u8 (c.read.getD k 0)) := by
  have := (cel_read h hf).some_ k (.int .u8 (c.read.getD k 0)) (by
    unfold b8s
    rw [List.getElem?_map, List.getElem?_eq_getElem (by rw [hf.1]; exact hk)]
    simp [List.getD, hf.1, hk])
  rw [addr_add, Nat.zero_add] at this
  exact this
theorem cel_byte_durable (h : Sat E w (HP.cel b c * q)) (hf : c.Fine) {k : Nat} (hk : k < 128) : w.cell? ⟨b, 128 + k, none⟩ = some (.int .u8 (c.durable.getD k 0)) := by
  have := (cel_durable h hf).some_ k (.int .u8 (c.durable.getD k 0)) (by
    unfold b8s
    rw [List.getElem?_map, List.getElem?_eq_getElem (by rw [hf.2.1]; exact hk)]
    simp [List.getD, hf.2.1, hk])
  rw [addr_add] at this
  exact this
theorem b8s_set (l : List Int) (k : Nat) (x : Int) : (b8s l).set k (.int .u8 x) = b8s (l.set k x) := by unfold b8s; rw [List.map_set]
theorem cel_set_read (h : Sat E w (HP.cel b c * q)) (hf : c.Fine) {k : Nat} (hk : k < 128) (x : Int) : Sat E (w.setCell ⟨b, k, none⟩ (.int .u8 x)) (HP.cel b { c with read := c.read.set k x } * q) := by
  have h1 : Sat E w (HP.pt b (.cells c.vals.toArray 80) * q) := h
  have h2 := h1.set (i := k) (.int .u8 x)
  have e : c.vals.toArray.setIfInBounds k (.int .u8 x) = ({ c with read := c.read.set k x } : Cel).vals.toArray := by
    rw [List.setIfInBounds_toArray]
    congr 1
    unfold Cel.vals
    rw [List.set_append_left _ _ (by rw [b8s_length, hf.1]; exact hk), b8s_set]
  rw [e] at h2
  exact h2
theorem cel_set_durable (h : Sat E w (HP.cel b c * q)) (hf : c.Fine) {k : Nat} (hk : k < 128) (x : Int) : Sat E (w.setCell ⟨b, 128 + k, none⟩ (.int .u8 x)) (HP.cel b { c with durable := c.durable.set k x } * q) := by
  have h1 : Sat E w (HP.pt b (.cells c.vals.toArray 80) * q) := h
  have h2 := h1.set (i := 128 + k) (.int .u8 x)
  have e : c.vals.toArray.setIfInBounds (128 + k) (.int .u8 x) = ({ c with durable := c.durable.set k x } : Cel).vals.toArray := by
    rw [List.setIfInBounds_toArray]
    congr 1
    unfold Cel.vals
    rw [List.set_append_right _ _ (by rw [b8s_length, hf.1]; omega), b8s_length, hf.1, Nat.add_sub_cancel_left, List.set_append_left _ _ (by rw [b8s_length, hf.2.1]; exact hk), b8s_set]
  rw [e] at h2
  exact h2
end
set_option maxHeartbeats 2000000 in
set_option maxRecDepth 100000 in
theorem disk_rot (E : Env) (q : HP) (d : Nat) (A : Dk) (name : ByteArray) (i at_ mask : Int) (w : World) (hn : name.size ≤ maxLen) (hw : Sat E w (HP.disk d A * q)) :
    Calls Try.prog 13 #[.pointer (some ⟨d, 0, none⟩), .string name, .int .i64 i, .int .i64 at_, .int .u8 mask] w fun e w' => e = .returned (.int .i64 (A.rot name i at_ mask).1) ∧ Sat E w' (HP.disk d (A.rot name i at_ mask).2 * q) := by
  obtain ⟨m, es, clock, fs, hv, hd⟩ := hw.disk_open
  have HF : Aside (A.rot name i at_ mask = match A.cel name i with
    | none => (30, A)
    | some c => if at_ < 0 ∨ 128 ≤ at_ then (1, A) else (0, A.set name ((A.at name).set i.toNat (c.rotd at_.toNat mask)))) := ⟨rfl⟩
  rw [← celAt_view hv] at HF
  clear hw
  go_enter Try.func13, Try.ntmps13
  go_wp2_with fail
  refine (disk_none E _ d _ _ m w (dk_parts hd)).mono ?_
  rintro e w1 ⟨rfl, rfl⟩
  go_wp2_with fail
  refine (disk_at E q d _ _ m es clock fs name i _ hn hv.map hd).mono ?_
  rintro e w2 ⟨rfl, rfl⟩
  rw [cellAt_eq]
  cases hx : celAt fs name i with
  | none =>
    rw [hx] at HF
    have HT : Aside (A.rot name i at_ mask = (30, A) ∧ Sat E w2 (HP.disk d A * q)) := ⟨HF.out, Sat.disk_close hv hd⟩
    clear HF hx hd hv
    go_wp2
    go_ret
    rw [HT.out.1]
    exact ⟨rfl, HT.out.2⟩
  | some x =>
    rw [hx] at HF
    obtain ⟨j, f, k, hj, hname, hik, hk⟩ := celAt_some hx
    have hxf : x.2.Fine := hv.cel_fine (List.mem_of_getElem? hj) (List.mem_of_getElem? hk)
    obtain ⟨r, hr1, -, hr3⟩ := take_cel hv hd hj hk
    have hat : A.at name = f.cs := by
      unfold Dk.at
      rw [← hv.same, ← hname, lkF_at hv.nodup hj]; rfl
    have HD : Aside (Sat E w2 (HP.disk d A * q)) := ⟨Sat.disk_close hv hd⟩
    have HR : Aside (∀ w' c', c'.Fine → Sat E w' (HP.cel x.1 c' * r) → Sat E w' (HP.disk d (A.set name ((A.at name).set i.toNat c')) * q)) := ⟨fun w' c' hc h => by
      have := hr3 w' c' hc h
      rw [hat, hik, Int.toNat_natCast, ← hname]
      exact this⟩
    obtain ⟨bk, c⟩ := x
    dsimp only [Option.map_some] at *
    clear hx hd hv hr3 hj hk hname hik hat
    by_cases h0 : at_ < 0
    · have HT : Aside (A.rot name i at_ mask = (1, A)) := ⟨by rw [HF.out]; simp [h0]⟩
      clear HF hr1 hxf HR
      go_wp2
      go_ret
      rw [HT.out]
      exact ⟨rfl, HD.out⟩
    · by_cases h8 : 128 ≤ at_
      · have HT : Aside (A.rot name i at_ mask = (1, A)) := ⟨by rw [HF.out]; simp [h8]⟩
        clear HF hr1 hxf HR
        go_wp2
        go_ret
        rw [HT.out]
        exact ⟨rfl, HD.out⟩
      · obtain ⟨n, rfl⟩ := Int.eq_ofNat_of_zero_le (Int.not_lt.1 h0)
        have hn8 : n < 128 := by omega
        have HT : Aside (A.rot name i n mask = (0, A.set name ((A.at name).set i.toNat (c.rotd n mask)))) := ⟨by rw [HF.out]; simp only [if_neg (show ¬ ((n : Int) < 0 ∨ 128 ≤ (n : Int)) by omega), Int.toNat_natCast]⟩
        have cw := cel_waits hr1 hxf
        have hn1 : (n : Int) < 128 := by omega
        have hn0 : (0 : Int) ≤ (n : Int) := by omega
        cases hcw : c.waits with
        | true =>
          rw [hcw] at cw
          have g2 := cel_byte_durable hr1 hxf hn8
          have f2 := cel_thaw hr1 (128 + n)
          have h9 := cel_set_durable (hr1.drew) hxf hn8 (xorB (c.durable.getD n 0) mask)
          have HH := Aside.mk (HR.out _ _ (Cel.rotd_fine hxf n mask) (by
            have e : c.rotd n mask = { c with durable := c.durable.set n (xorB (c.durable.getD n 0) mask) } := by unfold Cel.rotd xorAt; rw [if_pos hcw]
            rw [e]; exact h9))
          clear HF HR HD hr1 hxf hcw h9
          generalize c.durable.getD n 0 = y at *
          unfold xorB at HH
          go_wp2
          refine region_R [11] [] (fun _ => True) #[false, false, false, false, false, false, false, false, false, false, false, false] (by kernel_rfl) rfl rfl ?_
          refine wpR_rd 0 #[true, false, false, false, false, false, false, false, false, false, false, false] rfl onlyN_noPanic (by kernel_rfl) (fun K hK => ?_); (go_simp; try go_bits); refine hK _ ?_; clear hK K
          refine wpR_rd 1 #[true, true, false, false, false, false, false, false, false, false, false, false] rfl onlyN_noPanic (by kernel_rfl) (fun K hK => ?_); (go_simp; try go_bits); refine hK _ ?_; clear hK K
          refine wpR_rd 2 #[true, true, true, false, false, false, false, false, false, false, false, false] rfl onlyN_noPanic (by kernel_rfl) (fun K hK => ?_); (go_simp; try go_bits); refine hK _ ?_; clear hK K
          refine wpR_rd 3 #[true, true, true, true, false, false, false, false, false, false, false, false] rfl onlyN_noPanic (by kernel_rfl) (fun K hK => ?_); (go_simp; try go_bits); refine hK _ ?_; clear hK K
          refine wpR_rd 4 #[true, true, true, true, true, false, false, false, false, false, false, false] rfl onlyN_noPanic (by kernel_rfl) (fun K hK => ?_); (go_simp; try go_bits); refine hK _ ?_; clear hK K
          refine wpR_rd 5 #[true, true, true, true, true, true, false, false, false, false, false, false] rfl onlyN_noPanic (by kernel_rfl) (fun K hK => ?_); (go_simp; try go_bits); refine hK _ ?_; clear hK K
          refine wpR_rd 6 #[true, true, true, true, true, true, true, false, false, false, false, false] rfl onlyN_noPanic (by kernel_rfl) (fun K hK => ?_); (go_simp; try go_bits); refine hK _ ?_; clear hK K
          refine wpR_rd 7 #[true, true, true, true, true, true, true, true, false, false, false, false] rfl onlyN_noPanic (by kernel_rfl) (fun K hK => ?_); (go_simp; try go_bits); refine hK _ ?_; clear hK K
          refine wpR_rd 8 #[true, true, true, true, true, true, true, true, true, false, false, false] rfl onlyN_noPanic (by kernel_rfl) (fun K hK => ?_); (go_simp; try go_bits); refine hK _ ?_; clear hK K
          refine wpR_rd 9 #[true, true, true, true, true, true, true, true, true, true, false, false] rfl onlyN_noPanic (by kernel_rfl) (fun K hK => ?_); (go_simp; try go_bits); refine hK _ ?_; clear hK K
          refine wpR_rd 10 #[true, true, true, true, true, true, true, true, true, true, true, false] rfl onlyN_noPanic (by kernel_rfl) (fun K hK => ?_); (go_simp; try go_bits); refine hK _ ?_; clear hK K
          refine wpR_eff #[true, true, true, true, true, true, true, true, true, true, true, true] (i := 11) rfl (by kernel_rfl) (fun K hK => ?_)
          go_simp; refine hK _ _ ?_; clear hK K
          refine wpR_done (by kernel_rfl) ?_ _
          simp only [OnlyN]
          go_wp2
          go_ret
          rw [HT.out]
          exact ⟨rfl, HH.out⟩
        | false =>
          rw [hcw] at cw
          have g2 := cel_byte_read hr1 hxf hn8
          have f2 := cel_thaw hr1 n
          have h9 := (cel_set_read hr1 hxf hn8 (xorB (c.read.getD n 0) mask)).drew
          have hxf1 : ({ c with read := c.read.set n (xorB (c.read.getD n 0) mask) } : Cel).Fine := ⟨List.length_set.trans hxf.1, hxf.2.1, hxf.2.2.1, hxf.2.2.2⟩
          have HX := Aside.mk (And.intro h9 hxf1)
          have HR2 : Aside (∀ w', Sat E w' (HP.cel bk { c with read := c.read.set n (xorB (c.read.getD n 0) mask), durable := c.durable.set n (xorB (c.durable.getD n 0) mask) } * r) → Sat E w' (HP.disk d (A.set name ((A.at name).set i.toNat (c.rotd n mask))) * q)) := ⟨fun w' h => HR.out w' _ (Cel.rotd_fine hxf n mask) (by
            have e : c.rotd n mask = { c with read := c.read.set n (xorB (c.read.getD n 0) mask), durable := c.durable.set n (xorB (c.durable.getD n 0) mask) } := by unfold Cel.rotd xorAt; rw [if_neg (by rw [hcw]; decide)]
            rw [e]; exact h)⟩
          clear HF HR HD hr1 hxf hcw h9 hxf1
          obtain ⟨y, hy⟩ : ∃ y, y = c.read.getD n 0 := ⟨_, rfl⟩
          simp only [← hy] at g2 HX HR2
          clear hy
          unfold xorB at HX
          go_wp2
          refine region_R [11] [] (fun _ => True) #[false, false, false, false, false, false, false, false, false, false, false, false] (by kernel_rfl) rfl rfl ?_
          refine wpR_rd 0 #[true, false, false, false, false, false, false, false, false, false, false, false] rfl onlyN_noPanic (by kernel_rfl) (fun K hK => ?_); (go_simp; try go_bits); refine hK _ ?_; clear hK K
          refine wpR_rd 1 #[true, true, false, false, false, false, false, false, false, false, false, false] rfl onlyN_noPanic (by kernel_rfl) (fun K hK => ?_); (go_simp; try go_bits); refine hK _ ?_; clear hK K
          refine wpR_rd 2 #[true, true, true, false, false, false, false, false, false, false, false, false] rfl onlyN_noPanic (by kernel_rfl) (fun K hK => ?_); (go_simp; try go_bits); refine hK _ ?_; clear hK K
          refine wpR_rd 3 #[true, true, true, true, false, false, false, false, false, false, false, false] rfl onlyN_noPanic (by kernel_rfl) (fun K hK => ?_); (go_simp; try go_bits); refine hK _ ?_; clear hK K
          refine wpR_rd 4 #[true, true, true, true, true, false, false, false, false, false, false, false] rfl onlyN_noPanic (by kernel_rfl) (fun K hK => ?_); (go_simp; try go_bits); refine hK _ ?_; clear hK K
          refine wpR_rd 5 #[true, true, true, true, true, true, false, false, false, false, false, false] rfl onlyN_noPanic (by kernel_rfl) (fun K hK => ?_); (go_simp; try go_bits); refine hK _ ?_; clear hK K
          refine wpR_rd 6 #[true, true, true, true, true, true, true, false, false, false, false, false] rfl onlyN_noPanic (by kernel_rfl) (fun K hK => ?_); (go_simp; try go_bits); refine hK _ ?_; clear hK K
          refine wpR_rd 7 #[true, true, true, true, true, true, true, true, false, false, false, false] rfl onlyN_noPanic (by kernel_rfl) (fun K hK => ?_); (go_simp; try go_bits); refine hK _ ?_; clear hK K
          refine wpR_rd 8 #[true, true, true, true, true, true, true, true, true, false, false, false] rfl onlyN_noPanic (by kernel_rfl) (fun K hK => ?_); (go_simp; try go_bits); refine hK _ ?_; clear hK K
          refine wpR_rd 9 #[true, true, true, true, true, true, true, true, true, true, false, false] rfl onlyN_noPanic (by kernel_rfl) (fun K hK => ?_); (go_simp; try go_bits); refine hK _ ?_; clear hK K
          refine wpR_rd 10 #[true, true, true, true, true, true, true, true, true, true, true, false] rfl onlyN_noPanic (by kernel_rfl) (fun K hK => ?_); (go_simp; try go_bits); refine hK _ ?_; clear hK K
          refine wpR_eff #[true, true, true, true, true, true, true, true, true, true, true, true] (i := 11) rfl (by kernel_rfl) (fun K hK => ?_)
          go_simp; refine hK _ _ ?_; clear hK K
          refine wpR_done (by kernel_rfl) ?_ _
          simp only [OnlyN]
          obtain ⟨h9, hxf1⟩ := HX.out
          obtain ⟨w5, hw5⟩ : ∃ w5, w5 = (w2.setCell ⟨bk, n, none⟩ (.int .u8 (bits .xor .u8 y mask))).drew := ⟨_, rfl⟩
          rw [← hw5] at h9 ⊢
          clear hw5 HX cw g2 f2 
          have g2 := cel_byte_durable h9 hxf1 hn8
          have f2 := cel_thaw h9 (128 + n)
          have h10 := cel_set_durable (h9.drew) hxf1 hn8 (xorB (c.durable.getD n 0) mask)
          have HH := Aside.mk (HR2.out _ h10)
          clear HR2 h9 hxf1 h10
          dsimp only at g2
          generalize c.durable.getD n 0 = y at *
          unfold xorB at HH
          go_wp2
          refine region_R [11] [] (fun _ => True) #[false, false, false, false, false, false, false, false, false, false, false, false] (by kernel_rfl) rfl rfl ?_
          refine wpR_rd 0 #[true, false, false, false, false, false, false, false, false, false, false, false] rfl onlyN_noPanic (by kernel_rfl) (fun K hK => ?_); (go_simp; try go_bits); refine hK _ ?_; clear hK K
          refine wpR_rd 1 #[true, true, false, false, false, false, false, false, false, false, false, false] rfl onlyN_noPanic (by kernel_rfl) (fun K hK => ?_); (go_simp; try go_bits); refine hK _ ?_; clear hK K
          refine wpR_rd 2 #[true, true, true, false, false, false, false, false, false, false, false, false] rfl onlyN_noPanic (by kernel_rfl) (fun K hK => ?_); (go_simp; try go_bits); refine hK _ ?_; clear hK K
          refine wpR_rd 3 #[true, true, true, true, false, false, false, false, false, false, false, false] rfl onlyN_noPanic (by kernel_rfl) (fun K hK => ?_); (go_simp; try go_bits); refine hK _ ?_; clear hK K
          refine wpR_rd 4 #[true, true, true, true, true, false, false, false, false, false, false, false] rfl onlyN_noPanic (by kernel_rfl) (fun K hK => ?_); (go_simp; try go_bits); refine hK _ ?_; clear hK K
          refine wpR_rd 5 #[true, true, true, true, true, true, false, false, false, false, false, false] rfl onlyN_noPanic (by kernel_rfl) (fun K hK => ?_); (go_simp; try go_bits); refine hK _ ?_; clear hK K
          refine wpR_rd 6 #[true, true, true, true, true, true, true, false, false, false, false, false] rfl onlyN_noPanic (by kernel_rfl) (fun K hK => ?_); (go_simp; try go_bits); refine hK _ ?_; clear hK K
          refine wpR_rd 7 #[true, true, true, true, true, true, true, true, false, false, false, false] rfl onlyN_noPanic (by kernel_rfl) (fun K hK => ?_); (go_simp; try go_bits); refine hK _ ?_; clear hK K
          refine wpR_rd 8 #[true, true, true, true, true, true, true, true, true, false, false, false] rfl onlyN_noPanic (by kernel_rfl) (fun K hK => ?_); (go_simp; try go_bits); refine hK _ ?_; clear hK K
          refine wpR_rd 9 #[true, true, true, true, true, true, true, true, true, true, false, false] rfl onlyN_noPanic (by kernel_rfl) (fun K hK => ?_); (go_simp; try go_bits); refine hK _ ?_; clear hK K
          refine wpR_rd 10 #[true, true, true, true, true, true, true, true, true, true, true, false] rfl onlyN_noPanic (by kernel_rfl) (fun K hK => ?_); (go_simp; try go_bits); refine hK _ ?_; clear hK K
          refine wpR_eff #[true, true, true, true, true, true, true, true, true, true, true, true] (i := 11) rfl (by kernel_rfl) (fun K hK => ?_)
          go_simp; refine hK _ _ ?_; clear hK K
          refine wpR_done (by kernel_rfl) ?_ _
          simp only [OnlyN]
          go_wp2
          go_ret
          rw [HT.out]
          exact ⟨rfl, HH.out⟩
end Go.Proofs.Ytjlfhfknnpjikaa
/- What the plain laws share. -/
namespace Go.Proofs.Ytjlfhfknnpjikaa
open Go.ChangeShapes Go.WideShapes Go.ChangeAt Go.RowKit HP
set_option linter.unusedVariables false

theorem old_carry {E : Env} {W w : World} (h : Sat E w (HP.old W)) : ∀ k, k < W.heap.size → w.heap[k]? = W.heap[k]? := fun k hk => Sat.old_block (p := HP.emp) (by rw [HP.mul_emp]; exact h) k hk
theorem rdB_at : (rdSl (rdInt .u8)).At Try.prog 22 := rdSl_at (n := 1) Try.underlying22 (by kernel_rfl) (rdInt_at Try.underlying5)
theorem u8_of {f : Int} (z : (Lit.int .u8 f).wf = true) : 0 ≤ f ∧ f ≤ 255 := byte_of z
end Go.Proofs.Ytjlfhfknnpjikaa
