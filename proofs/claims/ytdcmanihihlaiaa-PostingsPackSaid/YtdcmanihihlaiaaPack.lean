/- postings.Pack: numbers that rise, as bytes. -/
import Derived.Test.YtdcmanihihlaiaaShort
import Derived.Test.YtdcmanihihlaiaaCan
import Derived.Test.YtdcmanihihlaiaaChunk
import Derived.Test.YtdcmanihihlaiaaFrame
import Derived.Test.YtdcmanihihlaiaaReg
import Derived.Stop.RegionWithIn
import Derived.BigRegionIn
namespace Go.Proofs.Ytdcmanihihlaiaa
open Go.RowKit Go.Shelf HP
attribute [local go_sem] Oper.semAt_some
set_option linter.unusedSimpArgs false
set_option linter.unusedVariables false

set_option maxHeartbeats 1000000 in
set_option maxRecDepth 100000 in
theorem chunk_ok (A : Option Addr) (n c : Nat) (w : World) :
    Calls Try.prog 39 #[.slice A n c, .int .i64 8] w fun e w' =>
      e = .returned (.func (.func 56) #[] #[.pointer (some ⟨w.heap.size, 0, none⟩), .pointer (some ⟨w.heap.size + 1, 0, none⟩)]) ∧
      w' = (w.alloc (.cells #[.slice A n c] 23)).alloc (.cells #[.int .i64 8] 3) := by
  go_enter Try.func39, Try.ntmps39
  go_wp2
  go_ret
  exact ⟨rfl, rfl⟩

set_option maxHeartbeats 1000000 in
set_option maxRecDepth 100000 in
theorem pack_no (A : Option Addr) (l : List Int) (c : Nat) (w : World) (hl : l.length ≤ 1000000) (h : IntsAt w A l) (hc : canB l = false) :
    Calls Try.prog 12 #[.slice A l.length c] w fun e w' => e = .returned (.tuple #[.slice none 0 0, .int .i64 1]) ∧ w' = w := by
  go_enter Try.func12, Try.ntmps12
  go_wp2_with (go_at_call 37; refine (can_ok A l c _ hl h).mono ?_; rw [hc]; rintro e w' ⟨rfl, rfl⟩)
  go_ret2
  exact ⟨rfl, rfl⟩

/-- The numbers behind one of a block, packed. -/
def bodyFrom (prev : Int) : List Int → List Int
  | [] => []
  | n :: l => shortI (n - prev - 1) ++ bodyFrom n l
def bodyI : List Int → List Int
  | [] => []
  | n :: l => bodyFrom n l
def partAt (l : List Int) (x : Nat) : List Int := (l.drop x).take 8
/-- What one block turns: the table, the bodies, the first number of the block. -/
def packStep (l : List Int) (st : List Int × List Int × Int) (x : Nat) : List Int × List Int × Int :=
  (st.1 ++ shortI ((partAt l x).headD 0 - st.2.2) ++ shortI (bodyI (partAt l x)).length, st.2.1 ++ bodyI (partAt l x), (partAt l x).headD 0)
def packSt (l : List Int) (xs : List Nat) : List Int × List Int × Int := xs.foldl (packStep l) (shortI l.length, [], 0)
def packI (l : List Int) : List Int := let st := packSt l (starts ((l.length + 7) / 8)); st.1 ++ st.2.1

/-- Numbers that may be packed. -/
def Fits (l : List Int) : Prop := ∀ x ∈ l, 0 ≤ x ∧ x ≤ 2147483647
theorem fits_of_rises (l : List Int) : ∀ last : Int, -1 ≤ last → risesFrom last l = true → Fits l := by
  induction l with
  | nil => intro last _ _ x hx; cases hx
  | cons n l ih =>
    intro last h0 h x hx
    simp only [risesFrom, Bool.and_eq_true, decide_eq_true_eq] at h
    rcases List.mem_cons.1 hx with rfl | hx
    · omega
    · exact ih n (by omega) h.2 x hx
theorem fits_of_can {l : List Int} (h : canB l = true) : Fits l := by
  simp only [canB, Bool.and_eq_true] at h
  exact fits_of_rises l (-1) (by omega) h.1
theorem Fits.part {l : List Int} (h : Fits l) (x : Nat) : Fits (partAt l x) := fun y hy => h y (List.mem_of_mem_drop (List.mem_of_mem_take hy))
theorem part_len (l : List Int) (x : Nat) : (partAt l x).length ≤ 8 := by simp [partAt]; omega
theorem Fits.head {l : List Int} (h : Fits l) : 0 ≤ l.headD 0 ∧ l.headD 0 ≤ 2147483647 := by
  cases l with
  | nil => simp
  | cons n l => exact h n (by simp)
theorem bodyFrom_len (l : List Int) : ∀ (prev : Int), 0 ≤ prev → Fits l → (bodyFrom prev l).length ≤ 10 * l.length := by
  induction l with
  | nil => intro prev _ _; simp [bodyFrom]
  | cons n l ih =>
    intro prev hp h
    have hn := h n (by simp)
    have := shortI_len (n - prev - 1) (by omega)
    have := ih n (by omega) (fun x hx => h x (List.mem_cons_of_mem _ hx))
    simp only [bodyFrom, List.length_append, List.length_cons]
    omega
theorem bodyI_len {l : List Int} (h : Fits l) : (bodyI l).length ≤ 10 * l.length := by
  cases l with
  | nil => simp [bodyI]
  | cons n l =>
    have := bodyFrom_len l n (h n (by simp)).1 (fun x hx => h x (List.mem_cons_of_mem _ hx))
    simp only [bodyI, List.length_cons]
    omega
theorem packSt_len {l : List Int} (hl : l.length ≤ 1000000) (h : Fits l) (xs : List Nat) : (packSt l xs).1.length ≤ 10 + 20 * xs.length ∧ (packSt l xs).2.1.length ≤ 80 * xs.length ∧ 0 ≤ (packSt l xs).2.2 ∧ (packSt l xs).2.2 ≤ 2147483647 := by
  have key : ∀ (ys : List Nat) (st : List Int × List Int × Int), 0 ≤ st.2.2 → st.2.2 ≤ 2147483647 →
      (ys.foldl (packStep l) st).1.length ≤ st.1.length + 20 * ys.length ∧ (ys.foldl (packStep l) st).2.1.length ≤ st.2.1.length + 80 * ys.length ∧ 0 ≤ (ys.foldl (packStep l) st).2.2 ∧ (ys.foldl (packStep l) st).2.2 ≤ 2147483647 := by
    intro ys
    induction ys with
    | nil => intro st h0 h1; simp [h0, h1]
    | cons x ys ih =>
      intro st h0 h1
      have hp := h.part x
      have hh := hp.head
      have h2 := bodyI_len hp
      have h3 := part_len l x
      have h4 := shortI_len ((partAt l x).headD 0 - st.2.2) (by omega)
      have h5 := shortI_len (bodyI (partAt l x)).length (by omega)
      have := ih (packStep l st x) hh.1 hh.2
      simp only [packStep, List.length_append, List.length_cons] at this ⊢
      simp only [List.foldl_cons, packStep]
      omega
  have h1 := shortI_len l.length (by omega)
  have := key xs (shortI l.length, [], 0) (by simp) (by simp)
  simp only [List.length_nil] at this
  simp only [packSt]
  omega

theorem packSt_snoc (l : List Int) (xs : List Nat) (x : Nat) : packSt l (xs ++ [x]) = packStep l (packSt l xs) x := by simp [packSt]

/-- The body up to so many numbers. -/
def bodyTo (p : List Int) (j : Nat) : List Int := bodyI (p.take (j + 1))
theorem bodyFrom_snoc (l : List Int) (y : Int) : ∀ prev, bodyFrom prev (l ++ [y]) = bodyFrom prev l ++ shortI (y - (prev :: l).getLastD 0 - 1) := by
  induction l with
  | nil => intro prev; simp [bodyFrom]
  | cons n l ih => intro prev; simp [bodyFrom, ih]
theorem bodyTo_succ {p : List Int} {j : Nat} (h : j + 1 < p.length) : bodyTo p (j + 1) = bodyTo p j ++ shortI (p[j + 1] - p[j] - 1) := by
  cases p with
  | nil => simp at h
  | cons n l =>
    simp only [List.length_cons] at h
    have h1 : j < l.length := by omega
    simp only [bodyTo, List.take_succ_cons, bodyI]
    rw [List.take_succ_eq_append_getElem h1, bodyFrom_snoc]
    congr 3
    simp only [List.getElem_cons_succ]
    congr 1
    cases j with
    | zero => simp
    | succ j =>
      rw [List.take_succ_eq_append_getElem (by omega), ← List.cons_append, List.getLastD_concat]
      simp
theorem bodyTo_zero (p : List Int) : bodyTo p 0 = [] := by cases p <;> simp [bodyTo, bodyI, bodyFrom]
theorem bodyTo_len {p : List Int} (h : Fits p) (j : Nat) : (bodyTo p j).length ≤ 10 * p.length := by
  have h1 := bodyI_len (l := p.take (j + 1)) (fun x hx => h x (List.mem_of_mem_take hx))
  simp only [List.length_take] at h1
  unfold bodyTo
  omega
theorem bodyTo_all (p : List Int) (j : Nat) (h : p.length ≤ j + 1) : bodyTo p j = bodyI p := by rw [bodyTo, List.take_of_length_le h]

/-- The three boxes of Pack, and its two rows. -/
def packBox (b : Nat) (vt vb : Value) (st : List Int × List Int × Int) : HP :=
  HP.pt b (.cells #[vt] 22) * (HP.row 5 1 vt st.1.length (u8s st.1) * (HP.pt (b + 1) (.cells #[vb] 22) * (HP.row 5 1 vb st.2.1.length (u8s st.2.1) * HP.pt (b + 2) (.cells #[.int .i64 st.2.2] 3))))

set_option maxHeartbeats 1000000 in
set_option maxRecDepth 100000 in
theorem pack_yes (E : Env) (q : HP) (A : Option Addr) (l : List Int) (c : Nat) (w : World) (hl : l.length ≤ 1000000) (hlc : l.length ≤ c) (hw : Sat E w q) (h : ∀ w, Sat E w q → IntsAt w A l) (hc : canB l = true) :
    CallsIn Fence.wide 20 Try.prog 12 #[.slice A l.length c] w fun e w' => ∃ v, e = .returned (.tuple #[v, .int .i64 0]) ∧ Sat E w' (row 5 1 v (packI l).length (u8s (packI l)) * q) := by
  have h0 := h _ hw
  have HC := Aside.mk hc
  refine callsIn_of_wp_marks Try.func12 rfl trivial ?_ rfl
  simp only [Try.ntmps12, List.size_toArray, List.length_cons, List.length_nil, Nat.reduceAdd, Nat.reduceSub, Array.replicate_succ, Array.replicate_zero, List.push_toArray, List.append_toArray, List.nil_append, List.cons_append]
  gi_wp2_with (refine ⟨trivial, ?_⟩; gi_at_call 37; refine (callsIn_wide.2 (can_ok A l c _ hl h0)).mono ?_; rw [hc]; rintro e w' ⟨rfl, rfl⟩)
  clear hc
  refine ⟨trivial, ?_⟩
  refine (callsIn_wide.2 (short_ok E q _ 0 [] l.length _ (by omega) (by omega) (hw.row_nil _ _ _))).mono ?_
  rintro e w1 ⟨v1, rfl, hw1⟩
  obtain ⟨A1, c1, rfl, -, -⟩ := hw1.row_slice
  gi_wp2
  refine ⟨trivial, ?_⟩
  refine (callsIn_wide.2 (chunk_ok A l.length c _)).mono ?_
  rintro e w2 ⟨rfl, rfl⟩
  gi_wp2
  -- where the loop begins
  have hS := ((((((hw1.alloc (.cells #[Value.slice A1 (shortI ↑l.length).length c1] 22)).alloc (.cells #[Value.slice none 0 0] 22)).alloc (.cells #[Value.int IntKind.i64 0] 3)).alloc (.cells #[Value.slice A l.length c] 23)).alloc (.cells #[Value.int IntKind.i64 8] 3)).row_nil 5 1 none)
  simp only [World.size_alloc, Nat.zero_add, List.nil_append] at hS
  obtain ⟨b, hb⟩ : ∃ b, w1.heap.size = b := ⟨_, rfl⟩
  rw [hb] at hS
  simp only [Nat.add_assoc, Nat.reduceAdd] at hS
  simp only [hb, Nat.add_assoc, Nat.reduceAdd]
  generalize hW0 : World.alloc _ (Obj.cells #[Value.int IntKind.i64 8] 3) = W0 at hS ⊢
  have hsz : W0.heap.size = b + 5 := by rw [← hW0]; simp [hb]
  have hS1 : Sat E W0 (packBox b (.slice A1 (shortI ↑l.length).length c1) (.slice none 0 0) (shortI l.length, [], 0) * (HP.pt (b + 3) (.cells #[Value.slice A l.length c] 23) * (HP.pt (b + 4) (.cells #[Value.int IntKind.i64 8] 3) * q))) :=
    hS.perm (by simp only [packBox, u8s, List.map_nil, List.length_nil]; ac_rfl)
  clear hS hW0 hw1 hw hb h0
  have hcel : ∀ vt vb st, HP.Celled (packBox b vt vb st) := fun vt vb st => (Celled.pt _ _ _ _).mul ((Celled.row _ _ _ _ _).mul ((Celled.pt _ _ _ _).mul ((Celled.row _ _ _ _ _).mul (Celled.pt _ _ _ _))))
  obtain ⟨k2, hk2, hS2, hback, -⟩ := hS1.exact (hcel _ _ _)
  have hbk : ∀ W p, Sat E W (p * HP.is k2) → W.cell? ⟨b + 3, 0, none⟩ = some (.slice A l.length c) ∧ W.cell? ⟨b + 4, 0, none⟩ = some (.int .i64 8) ∧ IntsAt W A l := fun W p hp =>
    ⟨((hback W p hp).s2).cell 0, ((hback W p hp).s3).cell 0, h W ((hback W p hp).right.right.right)⟩
  have hb2 : ∀ W W' p p', Sat E W (p * HP.is k2) → Sat E W' (p' * HP.is k2) → Two (b + 3) (b + 4) W W' := fun W W' p p' hp hp' =>
    ⟨((hback W' p' hp').s2).get.trans ((hback W p hp).s2).get.symm, ((hback W' p' hp').s3).get.trans ((hback W p hp).s3).get.symm⟩
  have hk2' : ∀ b' o, k2 b' = some o → b' < W0.heap.size := fun b' o ho => (Array.getElem?_eq_some_iff.1 (hk2 b' o ho)).1
  refine wpIn_rangeFunc_ownG rfl (by omega) (gf := 56) (lb := #[.pointer (some ⟨b + 3, 0, none⟩), .pointer (some ⟨b + 4, 0, none⟩)]) rfl trivial (enters_of Try.func56 (by kernel_rfl) rfl)
    (chunk_stops 19 (by omega) (b + 3) (b + 4) A l.length c (fun h0 => by obtain ⟨a, ha, _⟩ := (hbk _ _ hS2).2.2.get 0 (by omega); exact ⟨a, ha⟩) hlc hl W0 (by omega) (by omega) (hbk _ _ hS2).1 (hbk _ _ hS2).2.1)
    (fun h k => ⟨k.1.trans h.1, k.2.trans h.2⟩) ?hKb (Below.refl _ _) (fun _ => rfl)
    (fun pre W => ∃ vt vb, Sat E W (packBox b vt vb (packSt l (pre.map (·.1))) * HP.is k2)) (fun _ _ _ => False) ?hI (fun _ _ _ _ _ hs _ _ => hs) ⟨_, _, hS2⟩
    (fun x => { tmps := #[.slice A l.length c, undef, .slice none 0 0, .int .i64 0, .pointer (some ⟨b, 0, none⟩), .pointer (some ⟨b + 1, 0, none⟩), .pointer (some ⟨b + 2, 0, none⟩), piece (A.getD ⟨0, 0, none⟩) l.length x.1, undef, undef, .slice A l.length c, .bool true, .bool false, .slice A l.length c, .int .i64 l.length, .slice A1 (shortI ↑l.length).length c1, .slice A l.length c, .func (.func 56) #[] #[.pointer (some ⟨b + 3, 0, none⟩), .pointer (some ⟨b + 4, 0, none⟩)], piece (A.getD ⟨0, 0, none⟩) l.length x.1, undef, undef, undef, undef, undef, undef, undef, undef, undef, undef, undef, undef, undef, undef, undef, undef, undef, undef, undef, undef, undef, undef, undef, undef, undef, undef, undef, undef, undef, undef, undef, undef, undef, undef, undef, undef, undef, undef, undef], defers := [] }) ?assign ?body ?done ?stop
  case hKb =>
    intro W r o o' hr ho _ _
    exact ⟨putObj_heap_ne W r o' (b + 3) (by omega), putObj_heap_ne W r o' (b + 4) (by omega)⟩
  case hI =>
    rintro pre W W' row ⟨vt, vb, hs⟩ hg hr
    exact ⟨vt, vb, hs.own (((hcel _ _ _).solid _).mul (Solid.is hk2')) hg hr⟩
  case assign =>
    intro r x W K hK
    gi_wp2
    exact hK
  case stop =>
    rintro D cc pre W _ _ h0 _
    exact h0.elim
  case done =>
    rintro D ys W hD hys ⟨vt, vb, hs⟩ hK
    obtain ⟨k3, hk3, hS3, hback3, hkeep⟩ := hs.exact (hcel _ _ _)
    have hK3 := hkeep D _ hK rfl
    have hfin : packI l = (packSt l (ys.map (·.1))).1 ++ (packSt l (ys.map (·.1))).2.1 := by rw [hys]; rfl
    have hbd := packSt_len hl (fits_of_can HC.out) (ys.map (·.1))
    have hyl : ys.length = (l.length + 7) / 8 := by rw [← starts_length ((l.length + 7) / 8), ← hys, List.length_map]
    rw [List.length_map] at hbd
    generalize packSt l (ys.map (·.1)) = st at hs hS3 hfin hbd
    have hS4 := Aside.mk hS3
    simp only [packBox, HP.mul_assoc] at hS3
    obtain ⟨At, ct, rfl, -, -⟩ := hS3.s2.row_slice
    obtain ⟨Ab, cb, rfl, -, -⟩ := hS3.s4.row_slice
    have c0 := hS3.cell1
    have c1 := hS3.s3.cell1
    have HX := Aside.mk hS3.s2
    have HY := Aside.mk hS3.s4.row_cells
    clear hS3 hs hK hS1
    gi_wp2_with (gi_at_builtin; go_loud (refine wpListIn_append_row slU8 rfl rfl (by rfl) (by rfl) HX.out HY.out (by simp [u8s]) (by simp [u8s, Value.oneCell']) (by unfold maxLen; omega) (by omega) (fun v' w5 HW' => ?_)))
    have H5 := HW'.drop2.drop2.drop2.drop2
    have hK5 := H5.right.is_get hK3
    refine ⟨by simp, .inl ⟨_, _, rfl, run_takeDeferred hK5, ?_⟩⟩
    refine ⟨_, results_tmp2 rfl _ _ _, v', rfl, ?_⟩
    have H6 := (hback3 _ _ H5).putObj (((Celled.row _ _ _ _ _).solid _).mul (Solid.is hk2')) hD hK5 rfl (.deferred none)
    rw [hfin, List.length_append]
    exact ((hback _ _ H6).drop2.drop2).perm (by simp [u8s])
  case body =>
    rintro r pre x W ⟨vt, vb, hs⟩ hpre
    obtain ⟨k3, hk3, hS3, hback3, hkeep⟩ := hs.exact (hcel _ _ _)
    obtain ⟨hc3, hc4, hin⟩ := hbk _ _ hs
    obtain ⟨x, hx⟩ := x
    dsimp only at hpre ⊢
    obtain ⟨ad, rfl, hcx⟩ := hin.get x hx
    have hsp : ∃ g o, ad = ⟨g, o, none⟩ := by
      obtain ⟨g, o, h⟩ := addr_of_cell hcx
      obtain ⟨g', o', s'⟩ := ad
      refine ⟨g', o', ?_⟩
      unfold Addr.add at h
      split at h
      · cases h; rfl
      · obtain ⟨a0, ha0, hc0⟩ := hin.get 0 (by omega)
        cases ha0
        rw [add_zero] at hc0
        obtain ⟨g2, o2, h2⟩ := addr_of_cell hc0
        cases h2; rfl
    obtain ⟨g, o, rfl⟩ := hsp
    simp only [piece, Option.getD_some]
    obtain ⟨e, he⟩ : ∃ e, min 8 (l.length - x) = e := ⟨_, rfl⟩
    have he1 : 1 ≤ e ∧ e ≤ 8 := by omega
    obtain ⟨p, hp⟩ : ∃ p, partAt l x = p := ⟨_, rfl⟩
    have hpl : p.length = e := by rw [← hp, ← he]; simp [partAt]
    have hpf : Fits p := by rw [← hp]; exact (fits_of_can HC.out).part x
    rw [he]
    have hbd := packSt_len hl (fits_of_can HC.out) (pre.map (·.1))
    rw [List.length_map] at hbd
    have hcell : ∀ W' p', Sat E W' (p' * HP.is k3) → ∀ k (hk : k < p.length), W'.cell? (((⟨g, o, none⟩ : Addr).add x).add k) = some (.int .i64 p[k]) := by
      intro W' p' hS k hk
      obtain ⟨_, _, hin'⟩ := hbk W' _ (hback3 _ _ hS)
      obtain ⟨a', ha', hc'⟩ := hin'.get (x + k) (by omega)
      cases ha'
      rw [Cells.add_add, hc']
      subst hp; simp [partAt]
    obtain ⟨s1, hs1⟩ : ∃ y, (packSt l (pre.map (·.1))).1 = y := ⟨_, rfl⟩
    obtain ⟨s2, hs2⟩ : ∃ y, (packSt l (pre.map (·.1))).2.1 = y := ⟨_, rfl⟩
    obtain ⟨last, hs3⟩ : ∃ y, (packSt l (pre.map (·.1))).2.2 = y := ⟨_, rfl⟩
    have HST := Aside.mk (And.intro hs1 (And.intro hs2 (And.intro hs3 hp)))
    have hst : packSt l (pre.map (·.1)) = (s1, s2, last) := by rw [← hs1, ← hs2, ← hs3]
    rw [hst] at hs hS3 hbd
    dsimp only at hbd
    clear hp he hS2 hS1 hin hc3 hc4 hs hs1 hs2 hs3 hst
    have HS := Aside.mk hS3
    simp only [packBox, HP.mul_assoc] at hS3
    obtain ⟨At, ct, rfl, -, -⟩ := hS3.s2.row_slice
    obtain ⟨Ab, cb, rfl, -, -⟩ := hS3.s4.row_slice
    have c1 := hS3.s3.cell1
    have HR0 := Aside.mk (hS3.s4)
    clear hS3
    obtain ⟨po, hpo⟩ : ∃ y, o + x = y := ⟨_, rfl⟩
    simp only [addr_add, hpo] at hcell ⊢
    clear hpo hcx
    subst hpl
    gi_wp2
    gi_loopw [9] (fun i wr => ∃ (j nb : Nat) (vb : Value), j + 1 ≤ p.length ∧ i = .int .i64 ((j : Int) + 1) ∧ Aside (nb = (s2 ++ bodyTo p j).length) ∧ Aside (Sat (envOf W) wr (HP.row 5 1 vb nb (u8s (s2 ++ bodyTo p j)) * (HP.pt b (.cells #[.slice At s1.length ct] 22) * (HP.row 5 1 (.slice At s1.length ct) s1.length (u8s s1) * (HP.pt (b + 1) (.cells #[vb] 22) * (HP.pt (b + 2) (.cells #[.int .i64 last] 3) * HP.is k3))))))) (fun i _ => p.length - (intOf i).toNat)
    case atStart => exact ⟨0, s2.length, _, he1.1, rfl, ⟨by rw [bodyTo_zero, List.append_nil]⟩, ⟨by rw [bodyTo_zero, List.append_nil]; exact HR0.out.own_env⟩⟩
    case round =>
      clear c1
      obtain ⟨j, nb, vb, hj, rfl, HN, HR⟩ := hrel
      obtain ⟨Ab, cb, rfl, -, -⟩ := HR.out.row_slice
      have hbt := bodyTo_len hpf j
      have hnb : nb ≤ s2.length + 10 * p.length := by rw [HN.out, List.length_append]; omega
      have hS := HR.out
      have c1 := hS.s4.cell1
      by_cases hlt : j + 1 < p.length
      · have g0 := hcell wr _ (HS.out.back (hS.perm (by rw [← HP.mul_assoc, ← HP.mul_assoc, ← HP.mul_assoc, ← HP.mul_assoc]))) j (by omega)
        have g1 := hcell wr _ (HS.out.back (hS.perm (by rw [← HP.mul_assoc, ← HP.mul_assoc, ← HP.mul_assoc, ← HP.mul_assoc]))) (j + 1) hlt
        have hy0 := hpf p[j] (List.getElem_mem _)
        have hy1 := hpf p[j + 1] (List.getElem_mem _)
        have hbs := bodyTo_succ hlt
        generalize p[j] = y0 at g0 hy0 hbs
        generalize p[j + 1] = y1 at g1 hy1 hbs
        have HBS := Aside.mk hbs
        have HX := Aside.mk hS.drew
        clear hS hbs HR HR0 HS
        have hw1 : IntKind.i64.wrap (y1 - y0) = y1 - y0 := IntWalk.i64_in _ (by omega)
        have hw2 : IntKind.i64.wrap (y1 - y0 - 1) = y1 - y0 - 1 := IntWalk.i64_in _ (by omega)
        gi_wp2
        have hj0 : (0 : Int) ≤ (j : Int) + 1 := by omega
        have hj1 : (j : Int) + 1 < (p.length : Int) := by omega
        have hj2 : (j : Int) < (p.length : Int) := by omega
        refine region_Rin [12, 13] [] (fun _ => True) #[false, false, false, false, false, false, false, false, false, false, false, false, false, false] (by kernel_rfl) (by kernel_rfl) rfl rfl ?_
        refine wpR_rd 0 #[true, false, false, false, false, false, false, false, false, false, false, false, false, false] rfl onlyN_noPanic (by kernel_rfl) (fun K hK => ?_); (go_simp; try go_bits); refine hK _ ?_; clear hK K
        refine wpR_rd 1 #[true, true, false, false, false, false, false, false, false, false, false, false, false, false] rfl onlyN_noPanic (by kernel_rfl) (fun K hK => ?_); (go_simp; try go_bits); refine hK _ ?_; clear hK K
        refine wpR_rd 2 #[true, true, true, false, false, false, false, false, false, false, false, false, false, false] rfl onlyN_noPanic (by kernel_rfl) (fun K hK => ?_); (go_simp; try go_bits); refine hK _ ?_; clear hK K
        refine wpR_rd 3 #[true, true, true, true, false, false, false, false, false, false, false, false, false, false] rfl onlyN_noPanic (by kernel_rfl) (fun K hK => ?_); (go_simp; try go_bits); refine hK _ ?_; clear hK K
        refine wpR_rd 4 #[true, true, true, true, true, false, false, false, false, false, false, false, false, false] rfl onlyN_noPanic (by kernel_rfl) (fun K hK => ?_); (go_simp; try go_bits); refine hK _ ?_; clear hK K
        refine wpR_rd 5 #[true, true, true, true, true, true, false, false, false, false, false, false, false, false] rfl onlyN_noPanic (by kernel_rfl) (fun K hK => ?_); (go_simp; try go_bits); refine hK _ ?_; clear hK K
        refine wpR_rd 6 #[true, true, true, true, true, true, true, false, false, false, false, false, false, false] rfl onlyN_noPanic (by kernel_rfl) (fun K hK => ?_); (go_simp; try go_bits); refine hK _ ?_; clear hK K
        refine wpR_rd 7 #[true, true, true, true, true, true, true, true, false, false, false, false, false, false] rfl onlyN_noPanic (by kernel_rfl) (fun K hK => ?_); (go_simp; try go_bits); refine hK _ ?_; clear hK K
        refine wpR_rd 8 #[true, true, true, true, true, true, true, true, true, false, false, false, false, false] rfl onlyN_noPanic (by kernel_rfl) (fun K hK => ?_); (go_simp; try go_bits); refine hK _ ?_; clear hK K
        refine wpR_rd 9 #[true, true, true, true, true, true, true, true, true, true, false, false, false, false] rfl onlyN_noPanic (by kernel_rfl) (fun K hK => ?_); (go_simp; try go_bits); refine hK _ ?_; clear hK K
        refine wpR_rd 10 #[true, true, true, true, true, true, true, true, true, true, true, false, false, false] rfl onlyN_noPanic (by kernel_rfl) (fun K hK => ?_); (go_simp; try go_bits); refine hK _ ?_; clear hK K
        refine wpR_rd 11 #[true, true, true, true, true, true, true, true, true, true, true, true, false, false] rfl onlyN_noPanic (by kernel_rfl) (fun K hK => ?_); (go_simp; try go_bits); refine hK _ ?_; clear hK K
        refine wpR_eff #[true, true, true, true, true, true, true, true, true, true, true, true, true, false] (i := 12) rfl (by kernel_rfl) (fun K hK => ?_)
        go_simp
        refine (short_ok _ _ _ _ _ _ _ (by omega) (by omega) HX.out).mono ?_
        rintro ee w6 ⟨v6, rfl, hw6⟩
        obtain ⟨A6, c6, rfl, -, -⟩ := hw6.row_slice
        have g6 := hw6.s4.cell1
        have f6 := hw6.s4.thaw 0
        refine hK _ _ ?_
        clear hK K
        refine wpR_eff #[true, true, true, true, true, true, true, true, true, true, true, true, true, true] (i := 13) rfl (by kernel_rfl) (fun K hK => ?_)
        go_simp
        refine hK _ _ ?_
        clear hK K
        refine wpR_done (by kernel_rfl) ?_ _
        simp only [OnlyN]
        have hw7 := hw6.s4.set1 (.slice A6 (nb + (shortI (y1 - y0 - 1)).length) c6)
        clear hw6 g6 f6 HX c1 g0 g1
        gi_wp2
        go_roundw
        case rel =>
          have e : u8s (s2 ++ bodyTo p (j + 1)) = u8s (s2 ++ bodyTo p j) ++ u8s (shortI (y1 - y0 - 1)) := by rw [HBS.out]; simp [u8s]
          refine ⟨j + 1, nb + (shortI (y1 - y0 - 1)).length, .slice A6 (nb + (shortI (y1 - y0 - 1)).length) c6, by omega, by go_num, ⟨by rw [HN.out, HBS.out]; simp; omega⟩, ⟨?_⟩⟩
          rw [e]
          exact hw7.perm (by ac_rfl)
        case measure => simp [intOf]; omega
      · have hj3 : j + 1 = p.length := by omega
        have hall := bodyTo_all p j (by omega)
        have HALL := Aside.mk (And.intro hall hj3)
        have g0 := hcell wr _ (HS.out.back (hS.perm (by rw [← HP.mul_assoc, ← HP.mul_assoc, ← HP.mul_assoc, ← HP.mul_assoc]))) 0 (by omega)
        rw [Nat.add_zero] at g0
        have hy0 := hpf p[0] (List.getElem_mem _)
        have hhd : p.headD 0 = p[0] := by cases p with
          | nil => simp at he1
          | cons y p => rfl
        obtain ⟨y0, hp0⟩ : ∃ y, p[0] = y := ⟨_, rfl⟩
        rw [hp0] at g0 hy0 hhd
        have HHD := Aside.mk (And.intro hhd hp0)
        have c0 := hS.s2.cell1
        have c2 := hS.s5.cell1
        have HX := Aside.mk hS.drew.s3
        clear hhd hp0 hall hj3 hS HR HR0
        have hnbs : s2.length ≤ nb := by rw [HN.out]; simp
        have hlen : 0 < p.length := by omega
        have hsl := shortI_len (y0 - last) (by omega)
        have hwa : IntKind.i64.wrap (y0 - last) = y0 - last := IntWalk.i64_in _ (by omega)
        have hwb : IntKind.i64.wrap ((nb : Int) - (s2.length : Int)) = (nb : Int) - (s2.length : Int) := IntWalk.i64_in _ (by omega)
        gi_wp2
        refine region_Rin [6, 11, 12] [6] (fun w' => w'.cell? ⟨b + 1, 0, none⟩ = some (.slice Ab nb cb)) #[false, false, false, false, false, false, false, false, false, false, false, false, false] (by kernel_rfl) (by kernel_rfl) rfl rfl ?_
        refine wpR_rd 0 #[true, false, false, false, false, false, false, false, false, false, false, false, false] rfl onlyN_noPanic (by kernel_rfl) (fun K hK => ?_); (go_simp; try go_bits); refine hK _ ?_; clear hK K
        refine wpR_rd 1 #[true, true, false, false, false, false, false, false, false, false, false, false, false] rfl onlyN_noPanic (by kernel_rfl) (fun K hK => ?_); (go_simp; try go_bits); refine hK _ ?_; clear hK K
        refine wpR_rd 2 #[true, true, true, false, false, false, false, false, false, false, false, false, false] rfl onlyN_noPanic (by kernel_rfl) (fun K hK => ?_); (go_simp; try go_bits); refine hK _ ?_; clear hK K
        refine wpR_rd 3 #[true, true, true, true, false, false, false, false, false, false, false, false, false] rfl onlyN_noPanic (by kernel_rfl) (fun K hK => ?_); (go_simp; try go_bits); refine hK _ ?_; clear hK K
        refine wpR_rd 4 #[true, true, true, true, true, false, false, false, false, false, false, false, false] rfl onlyN_noPanic (by kernel_rfl) (fun K hK => ?_); (go_simp; try go_bits); refine hK _ ?_; clear hK K
        refine wpR_rd 5 #[true, true, true, true, true, true, false, false, false, false, false, false, false] rfl onlyN_noPanic (by kernel_rfl) (fun K hK => ?_); (go_simp; try go_bits); refine hK _ ?_; clear hK K
        refine wpR_held (i := 7) (v := .slice Ab nb cb) #[true, true, true, true, true, true, false, true, false, false, false, false, false] rfl onlyN_noPanic (by kernel_rfl) (by go_simp) (.inl ⟨rfl, fun w' hT => ?_⟩) ?_
        · go_simp
        simp only [Act.put, List.setIfInBounds_toArray, List.set_cons_zero, List.set_cons_succ]
        refine wpR_held (i := 8) (v := .int .i64 nb) #[true, true, true, true, true, true, false, true, true, false, false, false, false] rfl onlyN_noPanic (by kernel_rfl) (by go_simp) (.inl ⟨rfl, fun w' hT => ?_⟩) ?_
        · go_simp
        simp only [Act.put, List.setIfInBounds_toArray, List.set_cons_zero, List.set_cons_succ]
        refine wpR_held (i := 9) (v := .int .i64 s2.length) #[true, true, true, true, true, true, false, true, true, true, false, false, false] rfl onlyN_noPanic (by kernel_rfl) (by go_simp) (.inl ⟨rfl, fun w' hT => ?_⟩) ?_
        · go_simp
        simp only [Act.put, List.setIfInBounds_toArray, List.set_cons_zero, List.set_cons_succ]
        refine wpR_held (i := 10) (v := .int .i64 ((nb : Int) - (s2.length : Int))) #[true, true, true, true, true, true, false, true, true, true, true, false, false] rfl onlyN_noPanic (by kernel_rfl) (by go_simp) (.inl ⟨rfl, fun w' hT => ?_⟩) ?_
        · go_simp
        simp only [Act.put, List.setIfInBounds_toArray, List.set_cons_zero, List.set_cons_succ]
        refine wpR_keep #[true, true, true, true, true, true, true, true, true, true, true, false, false] (i := 6) rfl (by kernel_rfl) (fun K hK => ?_)
        go_simp
        refine (short_ok _ _ _ _ _ _ _ (by omega) (by omega) HX.out).mono ?_
        rintro ee w6 ⟨v6, rfl, hw6⟩
        obtain ⟨A6, c6, rfl, -, -⟩ := hw6.row_slice
        have g6 := hw6.s4.cell1
        refine hK _ _ g6 ?_
        clear hK K
        refine wpR_eff #[true, true, true, true, true, true, true, true, true, true, true, true, false] (i := 11) rfl (by kernel_rfl) (fun K hK => ?_)
        go_simp
        refine (short_ok _ _ _ _ _ _ _ (by omega) (by omega) hw6).mono ?_
        rintro ee w8 ⟨v8, rfl, hw8⟩
        obtain ⟨A8, c8, rfl, -, -⟩ := hw8.row_slice
        have g8 := hw8.s3.cell1
        have f8 := hw8.s3.thaw 0
        refine hK _ _ ?_
        clear hK K
        refine wpR_eff #[true, true, true, true, true, true, true, true, true, true, true, true, true] (i := 12) rfl (by kernel_rfl) (fun K hK => ?_)
        go_simp
        refine hK _ _ ?_
        clear hK K
        refine wpR_done (by kernel_rfl) ?_ _
        simp only [OnlyN]
        have hw9 := hw8.s3.set1 (.slice A8 (s1.length + (shortI (y0 - last)).length + (shortI ((nb : Int) - (s2.length : Int))).length) c8)
        generalize World.setCell _ _ _ = w9 at hw9 ⊢
        have q0 := hcell w9 _ (HS.out.back (hw9.perm (by rw [← HP.mul_assoc, ← HP.mul_assoc, ← HP.mul_assoc, ← HP.mul_assoc]))) 0 (by omega)
        rw [Nat.add_zero, HHD.out.2] at q0
        have q2 := hw9.s5.cell1
        have r2 := hw9.s5.thaw 0
        clear hw6 hw8 g6 g8 f8 HX c1 c0 c2 g0
        have hw10 := hw9.s5.set1 (.int .i64 y0)
        clear hw9
        gi_wp2
        generalize World.setCell _ _ _ = w10 at hw10 ⊢
        have e0 : nb = s2.length + (bodyI p).length := by rw [HN.out, HALL.out.1, List.length_append]
        have e1 : ((nb : Int) - (s2.length : Int)) = ((bodyI p).length : Int) := by omega
        have e2 : packSt l (List.map (fun x => x.val) (pre ++ [(⟨x, hx⟩ : { x // x < l.length })])) = (s1 ++ shortI (y0 - last) ++ shortI (bodyI p).length, s2 ++ bodyI p, y0) := by
          rw [List.map_append, List.map_cons, List.map_nil, packSt_snoc]
          simp only [packStep, HST.out.1, HST.out.2.1, HST.out.2.2.1, HST.out.2.2.2, HHD.out.1]
        rw [e1] at hw10
        have hwf : Sat (envOf W) w10 (packBox b (.slice A8 (s1.length + (shortI (y0 - last)).length + (shortI ((bodyI p).length : Int)).length) c8) (.slice Ab nb cb)
            (packSt l (List.map (fun x => x.val) (pre ++ [(⟨x, hx⟩ : { x // x < l.length })]))) * HP.is k3) := by
          rw [e2]
          simp only [packBox, List.length_append, ← e0]
          rw [HALL.out.1] at hw10
          simp only [u8s, List.map_append] at hw10 ⊢
          exact hw10.perm (by ac_rfl)
        have hwE := HS.out.back hwf
        exact ⟨hwE.keeps hkeep hwf.size_le, hb2 _ _ _ _ (hback3 _ _ HS.out) (hback3 _ _ hwE), _, _, hback3 _ _ hwE⟩
end Go.Proofs.Ytdcmanihihlaiaa
