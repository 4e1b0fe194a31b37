/- Texts of one claim, one behind the other: LsP, RefC3, RefD3, RefF3, RefG3, RefH3. -/
import Derived.Test.YtnpinegpajbkeaaGreatDoorRi8
import Derived.Shelf.SlIter.Nil
set_option linter.unusedSimpArgs false
set_option linter.unusedVariables false
namespace Go.Proofs.YtnpinegpajbkeaaGreatDoor
open Go.RowKit Go.Maps Go.Sort Go.Shelf HP
theorem Sat.fresh {E : Env} {w w' : World} {p : HP} {g : Nat} {o : Obj} (h : Sat E w p) (hb : Below w.heap.size w w') (hg : w.heap.size ≤ g) (ho : w'.heap[g]? = some o) : Sat E w' (HP.pt g o * p) := by
  obtain ⟨e, k, hk, hp⟩ := h.below hb
  obtain ⟨e1, k, hk1, hp⟩ := h
  have hn : ∀ b, w.heap.size ≤ b → k b = none := fun b hb => by
    cases hks : k b with
    | none => rfl
    | some u => have := (Array.getElem?_eq_some_iff.1 (hk1 _ _ hks)).1; omega
  refine ⟨e, fun b => if b = g then some o else k b, fun b u hbu => ?_, fun b => if b = g then some o else none, k, fun b => ?_, fun b => ?_, fun b => rfl, hp⟩
  · by_cases hbs : b = g
    · subst hbs; simp at hbu; subst hbu; exact ho
    · simp [hbs] at hbu
      have h1 := hk1 b u hbu
      rw [hb.block b (Array.getElem?_eq_some_iff.1 h1).1]; exact h1
  · by_cases hbs : b = g
    · subst hbs; exact .inr (hn _ hg)
    · simp [hbs]
  · by_cases hbs : b = g
    · subst hbs; simp
    · simp [hbs]
theorem Sat.fresh_row {E : Env} {w w' : World} {p : HP} {e : TypeId} {size n : Nat} {v : Value} {xs : List Value} {base : Nat} (h : Sat E w p) (hb : Below w.heap.size w w') (hbase : w.heap.size ≤ base) (hr : w'.ownsRow base e size v n xs) : Sat E w' (HP.row e size v n xs * p) := by
  obtain ⟨hl, h1 | ⟨g, cap, cur, rfl, hg, hh, hnc, hcm, hcs, ht⟩⟩ := hr
  · obtain ⟨rfl, rfl⟩ := h1
    rw [Nat.zero_mul] at hl
    obtain rfl := List.eq_nil_of_length_eq_zero hl
    exact (h.below hb).row_nil e size none
  · have h2 := (h.fresh hb (Nat.le_trans hbase hg) hh).row_mk (off := 0) (size := size) (n := n) (cs := xs) hnc hcm (by rw [hcs]; simp) (by simpa using ht)
    rw [Nat.zero_mul] at h2
    exact h2
abbrev RN : Value → Option (DataW Unit × List MemPlace) := fun _ => some (.nil, [])
theorem names_le {A : Dk} (h : A.Fine) {s : ByteArray} {l : List Cel} (hm : (s, l) ∈ A.files) : s.size ≤ maxLen := by
  have := (h.named _ hm).1
  simp [namedB] at this
  unfold maxLen
  omega
theorem len_sizeF : ∀ {l : List (ByteArray × List Cel)}, (∀ x ∈ l, x.2 ≠ []) → (l.length : Int) ≤ sizeF l
  | [], _ => by simp [sizeF]
  | x :: l, h => by
    have := len_sizeF (l := l) fun y hy => h y (List.mem_cons_of_mem _ hy)
    have h1 : 1 ≤ x.2.length := by
      have := h x (List.mem_cons_self ..)
      cases hx : x.2 with
      | nil => exact absurd hx this
      | cons => simp
    unfold sizeF at this ⊢
    rw [List.map_cons, List.sum_cons, List.length_cons]
    push_cast at this ⊢
    omega
theorem files_le {A : Dk} (h : A.Fine) : A.files.length ≤ 100000 := by
  have := len_sizeF (l := A.files) fun x hx => (h.named x hx).2
  have := h.fits
  have := h.room
  omega
set_option maxRecDepth 100000 in
theorem own_map {E : Env} {w : World} {q : HP} {d m : Nat} {A : Dk} {room fuse : Int} {es : Array MapEntry} {clock : Nat} {fs : List Fil} (hv : View A es clock fs) (h : Sat E w (HP.dk d room fuse m es clock fs * q)) :
    ∃ D : DataW Unit, w.ownsMap Tryz.prog 9 RN m es.size D ∧ (strKeys D).Perm (A.files.map fun x => x.1.data.toList) ∧ Maps.size D = A.files.length := by
  have hb : w.heap[m]? = some (.map es clock) := by
    unfold HP.dk at h
    exact Sat.get (h.perm (by ac_rfl : _ = HP.pt m (.map es clock) * (HP.dsk d room fuse m * HP.all (fs.map HP.fil) * q)))
  obtain ⟨hk, hes, hn, hbn, hbd⟩ := hv.map
  have hpf := files_perm hv
  have hlen : es.size = fs.length := by
    have := congrArg List.length hes
    simpa using this
  have hlf : fs.length = A.files.length := by simpa using hpf.length_eq
  have hky : ∀ x ∈ es.toList, ∃ f ∈ fs, x.key = .string f.name := fun x hx => by
    have : (x.key, x.val) ∈ es.toList.map fun x => (x.key, x.val) := List.mem_map.2 ⟨x, hx, rfl⟩
    rw [hes] at this
    obtain ⟨f, hf, he⟩ := List.mem_map.1 this
    exact ⟨f, hf, (Prod.mk.inj he).1.symm⟩
  have hnm : ∀ f ∈ fs, f.name.size ≤ maxLen := fun f hf => by
    have : (f.name, f.cs) ∈ A.files := hpf.mem_iff.1 (List.mem_map.2 ⟨f, hf, rfl⟩)
    exact names_le hv.fine this
  have hkeys : es.toList.map (·.key) = fs.map fun f => Value.string f.name := by
    have := congrArg (List.map Prod.fst) hes
    rw [List.map_map, List.map_map] at this
    exact this
  have hrd : ∀ x ∈ es.toList, ∀ f ∈ fs, x.key = .string f.name → WideElems.rd Tryz.prog 9 RN x = some (.string f.name.data.toList, .nil) := fun x hx f hf he => by
    unfold WideElems.rd
    rw [he, WideMaps.keyOf_string_mk Tryz.underlying9 (hnm f hf)]
    rfl
  have hF : WideElems.Fit Tryz.prog 9 RN es clock := by
    refine ⟨by rw [hlen, hlf]; have := files_le hv.fine; unfold maxLen; omega, (MapKept.stamped_iff es clock).2 ⟨hbn, hbd, ?_⟩, fun x hx => ?_⟩
    · have h1 : (es.toList.map (·.key)).Nodup := by
        rw [hkeys]
        unfold List.Nodup at hn ⊢
        rw [List.pairwise_map] at hn ⊢
        exact hn.imp fun {a b} h1 h2 => h1 (Value.string.inj h2)
      exact List.pairwise_map.1 h1
    · obtain ⟨f, hf, he⟩ := hky x hx
      exact ⟨_, hrd x hx f hf he⟩
  refine ⟨_, ⟨es, clock, hb, hF, Nat.le_refl _, rfl⟩, ?_, ?_⟩
  · have hp := WideShapes.sorted_perm (es.toList.map (WideElems.rg Tryz.prog 9 RN))
    have h1 : (es.toList.map (WideElems.rg Tryz.prog 9 RN)).map (fun p => Go.strOf p.1) = fs.map fun f => f.name.data.toList := by
      rw [List.map_map]
      have : ∀ (l : List MapEntry), (∀ x ∈ l, x ∈ es.toList) → ∀ (gs : List Fil), (∀ f ∈ gs, f ∈ fs) → l.map (·.key) = gs.map (fun f => Value.string f.name) → l.map ((fun p => Go.strOf p.1) ∘ WideElems.rg Tryz.prog 9 RN) = gs.map fun f => f.name.data.toList := by
        intro l
        induction l with
        | nil => intro _ gs _ h; cases gs with
          | nil => rfl
          | cons => simp at h
        | cons x l ih =>
          intro hl gs hg h
          cases gs with
          | nil => simp at h
          | cons f gs =>
            simp only [List.map_cons, List.cons.injEq] at h
            rw [List.map_cons, List.map_cons, ih (fun y hy => hl y (List.mem_cons_of_mem _ hy)) gs (fun y hy => hg y (List.mem_cons_of_mem _ hy)) h.2]
            congr 1
            have := hrd x (hl x (List.mem_cons_self ..)) f (hg f (List.mem_cons_self ..)) h.1
            show Go.strOf (WideElems.rg Tryz.prog 9 RN x).1 = _
            rw [WideElems.rg_of this]
            rfl
      exact this _ (fun _ h => h) fs (fun _ h => h) hkeys
    show ((List.foldr DataW.insert [] (es.toList.map (WideElems.rg Tryz.prog 9 RN))).map fun p => Go.strOf p.1).Perm _
    have hp2 := hp.map (fun p : Lit × DataW Unit => Go.strOf p.1)
    rw [h1] at hp2
    refine List.Perm.trans hp2 ?_
    have := hpf.map fun x => x.1.data.toList
    rw [List.map_map] at this
    exact this
  · rw [Maps.size_eq, (WideShapes.sorted_perm _).length_eq, List.length_map, Array.length_toList, hlen, hlf]
theorem names_sorted {A : Dk} (h : A.Fine) {ss : List (List UInt8)} (hp : ss.Perm (A.files.map fun x => x.1.data.toList)) : ss.mergeSort (fun x y => decide (x ≤ y)) = A.files.map fun x => x.1.data.toList := by
  have e := mergeSort_of_perm hp
  show ss.mergeSort leB = _
  rw [e]
  refine List.mergeSort_of_pairwise ?_
  rw [List.pairwise_map]
  refine h.sorted.imp fun {x y} hxy => ?_
  unfold ltN at hxy
  have key : ∀ (x y : List UInt8), Op.bytesLess x y = decide (x < y) := by
    intro x
    induction x with
    | nil => intro y; cases y <;> simp [Op.bytesLess]
    | cons a x ih =>
      intro y
      cases y with
      | nil => simp [Op.bytesLess]
      | cons b y =>
        simp only [Op.bytesLess, ih y, List.cons_lt_cons_iff]
        by_cases h : a < b <;> by_cases h' : a = b <;> simp [h, h']
  rw [key, decide_eq_true_eq, ByteArray.toList_eq, ByteArray.toList_eq] at hxy
  exact decide_eq_true (List.le_of_lt hxy)
end Go.Proofs.YtnpinegpajbkeaaGreatDoor
namespace Go.Proofs.YtnpinegpajbkeaaGreatDoor
open Go.RowKit HP
theorem take_snoc {α : Type} {l : List α} {k : Nat} {x : α} (h : l[k]? = some x) : l.take (k + 1) = l.take k ++ [x] := by
  obtain ⟨hk, rfl⟩ := List.getElem?_eq_some_iff.1 h
  exact List.take_succ_eq_append_getElem hk
def plI (fs : List RF) (name : ByteArray) : Int := match fs.findIdx? (fun f => decide (f.name = name)) with | some k => k | none => -1
theorem plI_cases (fs : List RF) (name : ByteArray) : (∃ (k : Nat) (f : RF), plI fs name = k ∧ fs[k]? = some f ∧ f.name = name ∧ (∀ j < k, ∀ g, fs[j]? = some g → g.name ≠ name)) ∨ (plI fs name = -1 ∧ ∀ f ∈ fs, f.name ≠ name) := by
  unfold plI
  cases h : fs.findIdx? (fun f => decide (f.name = name)) with
  | some k =>
    obtain ⟨hk, h1, h2⟩ := List.findIdx?_eq_some_iff_getElem.1 h
    refine .inl ⟨k, fs[k], rfl, List.getElem?_eq_getElem hk, by simpa using h1, fun j hj g hg => ?_⟩
    have := h2 j hj
    obtain ⟨hj2, rfl⟩ := List.getElem?_eq_some_iff.1 hg
    simpa using this
  | none =>
    refine .inr ⟨rfl, fun f hf => ?_⟩
    have := List.findIdx?_eq_none_iff.1 h f hf
    simpa using this
theorem plI_first {fs : List RF} {name : ByteArray} {k : Nat} {f : RF} (hk : fs[k]? = some f) (hn : f.name = name) (hb : ∀ j < k, ∀ g, fs[j]? = some g → g.name ≠ name) : plI fs name = k := by
  rcases plI_cases fs name with ⟨k', f', h1, h2, h3, h4⟩ | ⟨-, h⟩
  · rw [h1]
    rcases Nat.lt_trichotomy k k' with h | h | h
    · exact absurd hn (h4 k h f hk)
    · rw [h]
    · exact absurd h3 (hb k' h f' h2)
  · exact absurd hn (h f (List.mem_of_getElem? hk))
theorem plI_none {fs : List RF} {name : ByteArray} (h : ∀ f ∈ fs, f.name ≠ name) : plI fs name = -1 := by
  rcases plI_cases fs name with ⟨k', f', h1, h2, h3, h4⟩ | ⟨h, -⟩
  · exact absurd h3 (h f' (List.mem_of_getElem? h2))
  · exact h
theorem lk_files : ∀ (fs : List RF) (name : ByteArray), lk (fs.map fun f => (f.name, f.cs.map (·.c))) name = (fs.find? fun f => decide (f.name = name)).map fun f => f.cs.map (·.c)
  | [], _ => rfl
  | f :: fs, name => by
    rw [List.map_cons, lk_cons, List.find?_cons]
    by_cases h : f.name = name
    · simp [h]
    · rw [if_neg h, lk_files fs name]
      simp [h]
theorem RView.lk_some {A : Dk} {fs : List RF} {L : List (Value × List Int)} (hv : RView A fs L) {k : Nat} {f : RF} (hk : fs[k]? = some f) (hb : ∀ j < k, ∀ g, fs[j]? = some g → g.name ≠ f.name) : lk A.files f.name = some (f.cs.map (·.c)) := by
  rw [← hv.same, lk_files]
  have : fs.find? (fun g => decide (g.name = f.name)) = some f := by
    rw [List.find?_eq_some_iff_getElem]
    obtain ⟨hk2, rfl⟩ := List.getElem?_eq_some_iff.1 hk
    refine ⟨by simp, k, hk2, rfl, fun j hj => ?_⟩
    have := hb j hj _ (List.getElem?_eq_getElem (by omega))
    simpa using this
  rw [this]; rfl
theorem RView.lk_none {A : Dk} {fs : List RF} {L : List (Value × List Int)} (hv : RView A fs L) {name : ByteArray} (h : ∀ f ∈ fs, f.name ≠ name) : lk A.files name = none := by
  rw [← hv.same, lk_files]
  have : fs.find? (fun g => decide (g.name = name)) = none := by
    rw [List.find?_eq_none]
    intro f hf
    simpa using h f hf
  rw [this]; rfl
theorem RView.len {A : Dk} {fs : List RF} {L : List (Value × List Int)} (hv : RView A fs L) : fs.length = A.files.length := by rw [← hv.same, List.length_map]
theorem rf_get {fs : List RF} {k : Nat} {f : RF} (hk : fs[k]? = some f) : (fs.flatMap RF.vals)[k * 2]? = some (.string f.name) ∧ (fs.flatMap RF.vals)[k * 2 + 1]? = some f.val := by
  have hg := fun j (hj : j < 2) => flat_get RF.vals 2 fs (fun _ => rfl) k j f hk hj
  have h0 := hg 0 (by omega)
  have h1 := hg 1 (by omega)
  exact ⟨by simpa [RF.vals] using h0, by simpa [RF.vals] using h1⟩
theorem Sat.rf_val {E : Env} {w : World} {q : HP} {y : Nat} {room fuse : Int} {v : Value} {fs : List RF} {L : List (Value × List Int)} {f : RF} (hf : f ∈ fs) (h : Sat E w (HP.rdk y room fuse v fs L * q)) : ∃ A c, f.val = .slice A f.cs.length c ∧ f.cs.length ≤ c ∧ c ≤ maxLen := by
  obtain ⟨r, hr⟩ := all_mem (List.mem_map.2 ⟨f, hf, rfl⟩ : HP.rcs f ∈ fs.map HP.rcs)
  have h2 := h.rdk_parts.s3
  rw [hr] at h2
  unfold HP.rcs at h2
  exact (h2.perm (HP.mul_assoc _ _ _)).row_slice
set_option maxHeartbeats 2000000 in
set_option maxRecDepth 100000 in
theorem ref_place (E : Env) (q : HP) (y : Nat) (room fuse : Int) (v : Value) (fs : List RF) (L : List (Value × List Int)) (name : ByteArray) (w : World) (hfl : fs.length ≤ 100000) (hw : Sat E w (HP.rdk y room fuse v fs L * q)) :
    Calls Tryz.prog 119 #[.pointer (some ⟨y, 0, none⟩), .string name] w fun e w' => e = .returned (.int .i64 (plI fs name)) ∧ Sat E w' (HP.rdk y room fuse v fs L * q) := by
  have hp := hw.rdk_parts
  have c1 := hp.cell 1
  simp only [List.getElem?_toArray, List.getElem?_cons_zero, List.getElem?_cons_succ] at c1
  obtain ⟨FA, cF, rfl, hcF, hcM⟩ := hp.s2.row_slice
  have HW := Aside.mk hw
  clear hw hp
  obtain ⟨n, hn⟩ : ∃ n, n = fs.length := ⟨_, rfl⟩
  rw [← hn] at c1 hcF hfl
  have HN := Aside.mk hn
  obtain ⟨R, hR⟩ : ∃ R, R = plI fs name := ⟨_, rfl⟩
  rw [← hR]
  have HR := Aside.mk hR
  clear hR hn
  rw [← HN.out] at HW
  go_enter Tryz.func119, Tryz.ntmps119
  go_wp2
  go_loopw [12] (fun v12 wr => ∃ k : Nat, k ≤ n ∧ v12 = .int .i64 k ∧ Aside (∀ j < k, ∀ g, fs[j]? = some g → g.name ≠ name) ∧ Aside (Sat E wr (HP.rdk y room fuse (.slice FA n cF) fs L * q))) (fun i _ => n - (intOf i).toNat)
  case atStart => exact ⟨0, Nat.zero_le _, rfl, ⟨fun j hj => by omega⟩, HW⟩
  case round =>
    clear HW c1
    obtain ⟨k, hk, rfl, HB, HS⟩ := hrel
    by_cases hlt : k < n
    · have hlt2 : (k : Int) < (n : Int) := by omega
      have h0 : (0 : Int) ≤ (k : Int) := by omega
      obtain ⟨f, hf⟩ : ∃ f, fs[k]? = some f := ⟨_, List.getElem?_eq_getElem (by rw [← HN.out]; exact hlt)⟩
      have hrow := HS.out.rdk_parts.s2
      rw [← HN.out] at hrow
      obtain ⟨e0, e1⟩ := rf_get hf
      have hrc := hrow.row_cells
      obtain ⟨pa, hpa, -⟩ := hrc _ _ e0
      obtain ⟨g, o, rfl⟩ : ∃ g o, pa = ⟨g, o, none⟩ := slice_addr hrc hpa (List.getElem?_eq_some_iff.1 e0).1
      rw [hpa] at hrc
      have c0 := hrc.some_ _ _ e0
      have c1 := hrc.some_ _ _ e1
      rw [addr_add] at c0 c1
      rw [← Nat.add_assoc] at c1
      rw [hpa]
      obtain ⟨VA, VC, hval, -, -⟩ := HS.out.rf_val (List.mem_of_getElem? hf)
      rw [hval] at c1
      obtain ⟨vn, hvn⟩ : ∃ vn, vn = f.cs.length := ⟨_, rfl⟩
      obtain ⟨fn, hfn⟩ : ∃ fn, fn = f.name := ⟨_, rfl⟩
      rw [← hvn] at c1
      rw [← hfn] at c0
      have HB2 := Aside.mk (HS.out.alloc (.cells #[.string fn, .slice VA vn VC] 174)).right
      have HF := Aside.mk (And.intro hf hfn)
      rw [hpa] at HB2
      clear hrow hrc e0 e1 hf hfn hvn hval
      by_cases hfn : (fn.toList == name.toList) = true
      · have HE : Aside (fn = name) := ⟨toList_inj (by simpa using hfn)⟩
        go_wp2
        go_ret
        refine ⟨by rw [HR.out, plI_first HF.out.1 (by rw [← HF.out.2, HE.out]) HB.out]; rfl, ?_⟩
        rw [← HN.out, hpa]
        exact HB2.out
      · have hne : fn ≠ name := fun h => hfn (by rw [h]; simp)
        have hfn : (fn.toList == name.toList) = false := by simpa using hfn
        have HB3 : Aside (∀ j < k + 1, ∀ g, fs[j]? = some g → g.name ≠ name) := ⟨fun j hj g hg => by
          rcases Nat.lt_or_ge j k with h | h
          · exact HB.out j h g hg
          · obtain rfl : j = k := by omega
            rw [HF.out.1] at hg
            cases hg
            rw [← HF.out.2]
            exact hne⟩
        clear hne
        go_wp2
        go_roundw
        case rel => exact ⟨k + 1, by omega, by go_num, HB3, HB2⟩
        case measure => simp [intOf]; omega
    · obtain rfl : k = n := by omega
      have hno : R = -1 := by
        rw [HR.out]
        refine plI_none fun f hf => ?_
        obtain ⟨j, hj⟩ := List.getElem?_of_mem hf
        exact HB.out j (by have := (List.getElem?_eq_some_iff.1 hj).1; have := HN.out; omega) f hj
      have HNO := Aside.mk hno
      clear hno
      go_wp2
      go_ret
      refine ⟨by rw [HNO.out]; rfl, ?_⟩
      rw [← HN.out]
      exact HS.out
set_option maxHeartbeats 2000000 in
set_option maxRecDepth 100000 in
theorem ref_free (E : Env) (q : HP) (y : Nat) (A : Dk) (v : Value) (fs : List RF) (L : List (Value × List Int)) (w : World) (hv : RView A fs L) (hw : Sat E w (HP.rdk y A.room A.fuse v fs L * q)) :
    Calls Tryz.prog 87 #[.pointer (some ⟨y, 0, none⟩)] w fun e w' => e = .returned (.int .i64 A.free) ∧ Sat E w' (HP.rdk y A.room A.fuse v fs L * q) := by
  have hp := hw.rdk_parts
  have c0 := hp.cell 0
  have c1 := hp.cell 1
  simp only [List.getElem?_toArray, List.getElem?_cons_zero, List.getElem?_cons_succ] at c0 c1
  obtain ⟨FA, cF, rfl, hcF, hcM⟩ := hp.s2.row_slice
  have hfl : fs.length ≤ 100000 := by rw [hv.len]; exact files_le hv.fine
  have hroom := hv.fine.room
  obtain ⟨fuse, hfu⟩ : ∃ fuse, fuse = A.fuse := ⟨_, rfl⟩
  obtain ⟨room, hro⟩ : ∃ room, room = A.room := ⟨_, rfl⟩
  obtain ⟨R, hR⟩ : ∃ R, R = A.free := ⟨_, rfl⟩
  rw [← hro] at hroom hw c0 ⊢
  rw [← hfu] at hw ⊢
  rw [← hR]
  have HR : Aside (R = room - (((fs.map fun f => f.cs.length).sum : Nat) : Int)) := ⟨by
    rw [hR, hro]; unfold Dk.free sizeF
    rw [← hv.same, List.map_map]
    congr 3
    apply List.map_congr_left
    intro f _
    simp⟩
  have hfit : (((fs.map fun f => f.cs.length).sum : Nat) : Int) ≤ room := by
    have := hv.fine.fits
    unfold sizeF at this
    rw [← hv.same, List.map_map, ← hro] at this
    have e : (fs.map fun f => f.cs.length) = fs.map ((fun x : ByteArray × List Cel => x.2.length) ∘ fun f => (f.name, f.cs.map (·.c))) := by
      apply List.map_congr_left
      intro f _
      simp
    rw [e]; exact this
  have HW := Aside.mk hw
  have HFit := Aside.mk hfit
  clear hw hp hv hfu hro hR hfit
  obtain ⟨n, hn⟩ : ∃ n, n = fs.length := ⟨_, rfl⟩
  rw [← hn] at c1 hcF hfl HW
  have HN := Aside.mk hn
  clear hn
  go_enter Tryz.func87, Tryz.ntmps87
  go_wp2
  go_loopw [3, 15] (fun v3 v15 wr => ∃ k : Nat, k ≤ n ∧ v15 = .int .i64 k ∧ (∃ s : Nat, v3 = .int .i64 (room - (s : Int)) ∧ Aside (s = ((fs.take k).map fun f => f.cs.length).sum)) ∧ Aside (Sat E wr (HP.rdk y room fuse (.slice FA n cF) fs L * q))) (fun _ i _ => n - (intOf i).toNat)
  case atStart => exact ⟨0, Nat.zero_le _, rfl, ⟨0, by simp, ⟨by simp⟩⟩, HW⟩
  case round =>
    clear HW c1 c0
    obtain ⟨k, hk, rfl, ⟨s, rfl, HB⟩, HS⟩ := hrel
    by_cases hlt : k < n
    · have hlt2 : (k : Int) < (n : Int) := by omega
      have h0 : (0 : Int) ≤ (k : Int) := by omega
      obtain ⟨f, hf⟩ : ∃ f, fs[k]? = some f := ⟨_, List.getElem?_eq_getElem (by rw [← HN.out]; exact hlt)⟩
      have hrow := HS.out.rdk_parts.s2
      rw [← HN.out] at hrow
      obtain ⟨e0, e1⟩ := rf_get hf
      have hrc := hrow.row_cells
      obtain ⟨pa, hpa, -⟩ := hrc _ _ e0
      obtain ⟨g, o, rfl⟩ : ∃ g o, pa = ⟨g, o, none⟩ := slice_addr hrc hpa (List.getElem?_eq_some_iff.1 e0).1
      rw [hpa] at hrc
      have c0 := hrc.some_ _ _ e0
      have c1 := hrc.some_ _ _ e1
      rw [addr_add] at c0 c1
      rw [← Nat.add_assoc] at c1
      rw [hpa]
      obtain ⟨VA, VC, hval, -, -⟩ := HS.out.rf_val (List.mem_of_getElem? hf)
      rw [hval] at c1
      obtain ⟨vn, hvn⟩ : ∃ vn, vn = f.cs.length := ⟨_, rfl⟩
      obtain ⟨fn, hfn⟩ : ∃ fn, fn = f.name := ⟨_, rfl⟩
      rw [← hvn] at c1
      rw [← hfn] at c0
      have HB2 := Aside.mk (HS.out.alloc (.cells #[.string fn, .slice VA vn VC] 174)).right
      have hst : fs.take (k + 1) = fs.take k ++ [f] := take_snoc hf
      have hsum : s + vn = ((fs.take (k + 1)).map fun f => f.cs.length).sum := by rw [hst, List.map_append, List.sum_append, ← HB.out, hvn]; simp
      have hsle : ((fs.take (k + 1)).map fun f => f.cs.length).sum ≤ (fs.map fun f => f.cs.length).sum := by
        have := congrArg (fun l => (l.map fun f : RF => f.cs.length).sum) (List.take_append_drop (k + 1) fs)
        simp only [List.map_append, List.sum_append] at this
        omega
      have hfit2 : ((s + vn : Nat) : Int) ≤ room := by have := HFit.out; omega
      have hz1 : (-9223372036854775808 : Int) ≤ room - (s : Int) - (vn : Int) := by omega
      have hz2 : room - (s : Int) - (vn : Int) ≤ 9223372036854775807 := by omega
      have HSM := Aside.mk hsum
      rw [hpa] at HB2
      clear hrow hrc e0 e1 hf hfn hvn hval hst hsum hsle hfit2
      go_wp2
      go_roundw
      case rel => exact ⟨k + 1, by omega, by go_num, ⟨s + vn, by congr 1; omega, HSM⟩, HB2⟩
      case measure => simp [intOf]; omega
    · obtain rfl : k = n := by omega
      go_wp2
      go_ret
      refine ⟨?_, by rw [← HN.out]; exact HS.out⟩
      rw [HR.out, HB.out, List.take_of_length_le (by rw [← HN.out]; exact Nat.le_refl _)]
      rfl
theorem RView.flen {A : Dk} {fs : List RF} {L : List (Value × List Int)} (hv : RView A fs L) : fs.length ≤ 100000 := by rw [hv.len]; exact files_le hv.fine
theorem RView.at_some {A : Dk} {fs : List RF} {L : List (Value × List Int)} (hv : RView A fs L) {k : Nat} {f : RF} (hk : fs[k]? = some f) (hb : ∀ j < k, ∀ g, fs[j]? = some g → g.name ≠ f.name) : A.at f.name = f.cs.map (·.c) := by
  unfold Dk.at; rw [hv.lk_some hk hb]; rfl
theorem RView.at_none {A : Dk} {fs : List RF} {L : List (Value × List Int)} (hv : RView A fs L) {name : ByteArray} (h : ∀ f ∈ fs, f.name ≠ name) : A.at name = [] := by
  unfold Dk.at; rw [hv.lk_none h]; rfl
theorem Sat.rf_at {E : Env} {w : World} {q : HP} {y : Nat} {room fuse : Int} {FA : Option Addr} {n cF : Nat} {fs : List RF} {L : List (Value × List Int)} {k : Nat} {f : RF} (hn : n = fs.length) (hk : fs[k]? = some f) (h : Sat E w (HP.rdk y room fuse (.slice FA n cF) fs L * q)) :
    ∃ g o VA VC, FA = some ⟨g, o, none⟩ ∧ f.val = .slice VA f.cs.length VC ∧ f.cs.length ≤ VC ∧ w.cell? ⟨g, o + k * 2, none⟩ = some (.string f.name) ∧ w.cell? ⟨g, o + k * 2 + 1, none⟩ = some (.slice VA f.cs.length VC) := by
  have hrow := h.rdk_parts.s2
  rw [← hn] at hrow
  obtain ⟨e0, e1⟩ := rf_get hk
  have hrc := hrow.row_cells
  obtain ⟨pa, hpa, -⟩ := hrc _ _ e0
  obtain ⟨g, o, rfl⟩ : ∃ g o, pa = ⟨g, o, none⟩ := slice_addr hrc hpa (List.getElem?_eq_some_iff.1 e0).1
  rw [hpa] at hrc
  have c0 := hrc.some_ _ _ e0
  have c1 := hrc.some_ _ _ e1
  rw [addr_add] at c0 c1
  rw [← Nat.add_assoc] at c1
  obtain ⟨VA, VC, hval, hc, -⟩ := h.rf_val (List.mem_of_getElem? hk)
  rw [hval] at c1
  exact ⟨g, o, VA, VC, hpa, hval, hc, c0, c1⟩
set_option maxHeartbeats 2000000 in
set_option maxRecDepth 100000 in
theorem ref_extents (E : Env) (q : HP) (y : Nat) (A : Dk) (v : Value) (fs : List RF) (L : List (Value × List Int)) (name : ByteArray) (w : World) (hv : RView A fs L) (hw : Sat E w (HP.rdk y A.room A.fuse v fs L * q)) :
    Calls Tryz.prog 75 #[.pointer (some ⟨y, 0, none⟩), .string name] w fun e w' => e = .returned (.int .i64 ((A.at name).length : Int)) ∧ Sat E w' (HP.rdk y A.room A.fuse v fs L * q) := by
  obtain ⟨FA, cF, rfl, hcF, hcM⟩ := hw.rdk_parts.s2.row_slice
  obtain ⟨R, hR⟩ : ∃ R : Int, R = ((A.at name).length : Int) := ⟨_, rfl⟩
  rw [← hR]
  have HR := Aside.mk hR
  clear hR
  have HV := Aside.mk hv
  clear hv
  obtain ⟨fuse, hfu⟩ : ∃ fuse, fuse = A.fuse := ⟨_, rfl⟩
  obtain ⟨room, hro⟩ : ∃ room, room = A.room := ⟨_, rfl⟩
  rw [← hfu, ← hro] at hw ⊢
  clear hfu hro
  obtain ⟨n, hn⟩ : ∃ n, n = fs.length := ⟨_, rfl⟩
  have hfl := HV.out.flen
  rw [← hn] at hcF hw hfl ⊢
  have HN := Aside.mk hn
  have HW := Aside.mk hw
  clear hn hw
  go_enter Tryz.func75, Tryz.ntmps75
  go_wp2_with fail
  refine (ref_place E q y room fuse _ fs L name w (by rw [← HN.out]; exact hfl) HW.out).mono ?_
  rintro e w1 ⟨rfl, h1⟩
  have HS := Aside.mk h1
  clear h1
  obtain ⟨pl, hpl⟩ : ∃ pl, pl = plI fs name := ⟨_, rfl⟩
  rw [← hpl]
  have c1 := HS.out.rdk_parts.cell 1
  simp only [List.getElem?_toArray, List.getElem?_cons_zero, List.getElem?_cons_succ] at c1
  rcases plI_cases fs name with ⟨k, f, h1, h2, h3, h4⟩ | ⟨h1, h2⟩
  · rw [← hpl] at h1
    have hkn : k < n := by rw [HN.out]; exact (List.getElem?_eq_some_iff.1 h2).1
    have hk0 : (0 : Int) ≤ (k : Int) := by omega
    have hk1 : (k : Int) < (n : Int) := by omega
    obtain ⟨g, o, VA, VC, rfl, hval, hvc, g0, g1⟩ := HS.out.rf_at HN.out h2
    have hRf : R = (f.cs.length : Int) := by rw [HR.out, ← h3, HV.out.at_some h2 (by rw [h3]; exact h4)]; simp
    obtain ⟨vn, hvn⟩ : ∃ vn, vn = f.cs.length := ⟨_, rfl⟩
    rw [← hvn] at hRf g1
    have HRF := Aside.mk hRf
    subst h1
    clear hpl h2 h3 h4 hval hvc hvn hRf
    go_wp2
    go_ret
    exact ⟨by rw [HRF.out]; rfl, HS.out⟩
  · rw [← hpl] at h1
    subst h1
    have hRf : R = 0 := by rw [HR.out, HV.out.at_none h2]; rfl
    have HRF := Aside.mk hRf
    clear hpl h2 hRf
    go_wp2
    go_ret
    exact ⟨by rw [HRF.out]; rfl, HS.out⟩
theorem rc_get {cs : List RC} {i : Nat} {x : RC} (hi : cs[i]? = some x) : (cs.flatMap RC.vals)[i * 5]? = some x.vr ∧ (cs.flatMap RC.vals)[i * 5 + 1]? = some x.vd ∧ (cs.flatMap RC.vals)[i * 5 + 2]? = some x.vs ∧ (cs.flatMap RC.vals)[i * 5 + 3]? = some x.vw ∧ (cs.flatMap RC.vals)[i * 5 + 4]? = some (.bool x.c.waits) := by
  have hg := fun j (hj : j < 5) => flat_get RC.vals 5 cs (fun _ => rfl) i j x hi hj
  have h0 := hg 0 (by omega)
  have h1 := hg 1 (by omega)
  have h2 := hg 2 (by omega)
  have h3 := hg 3 (by omega)
  have h4 := hg 4 (by omega)
  exact ⟨by simpa [RC.vals] using h0, by simpa [RC.vals] using h1, by simpa [RC.vals] using h2, by simpa [RC.vals] using h3, by simpa [RC.vals] using h4⟩
theorem Sat.rc_at {E : Env} {w : World} {q : HP} {y : Nat} {room fuse : Int} {v : Value} {fs : List RF} {L : List (Value × List Int)} {k : Nat} {f : RF} {VA : Option Addr} {vn VC i : Nat} {x : RC} (hk : fs[k]? = some f) (hval : f.val = .slice VA vn VC) (hi : f.cs[i]? = some x) (h : Sat E w (HP.rdk y room fuse v fs L * q)) :
    ∃ g o, VA = some ⟨g, o, none⟩ ∧ w.cell? ⟨g, o + i * 5, none⟩ = some x.vr ∧ w.cell? ⟨g, o + i * 5 + 1, none⟩ = some x.vd ∧ w.cell? ⟨g, o + i * 5 + 2, none⟩ = some x.vs ∧ w.cell? ⟨g, o + i * 5 + 3, none⟩ = some x.vw ∧ w.cell? ⟨g, o + i * 5 + 4, none⟩ = some (.bool x.c.waits) := by
  obtain ⟨r, hr⟩ := all_mem (List.mem_map.2 ⟨f, List.mem_of_getElem? hk, rfl⟩ : HP.rcs f ∈ fs.map HP.rcs)
  have h2 := h.rdk_parts.s3
  rw [hr] at h2
  unfold HP.rcs at h2
  have h3 := h2.perm (HP.mul_assoc _ _ _)
  rw [hval] at h3
  have hvn : f.cs.length = vn := by
    obtain ⟨A, c, hs, -, -⟩ := h3.row_slice
    cases hs; rfl
  rw [hvn] at h3
  have hrc := h3.row_cells
  obtain ⟨e0, e1, e2, e3, e4⟩ := rc_get hi
  obtain ⟨pa, hpa, -⟩ := hrc _ _ e0
  obtain ⟨g, o, rfl⟩ : ∃ g o, pa = ⟨g, o, none⟩ := slice_addr hrc hpa (List.getElem?_eq_some_iff.1 e0).1
  rw [hpa] at hrc
  have c0 := hrc.some_ _ _ e0
  have c1 := hrc.some_ _ _ e1
  have c2 := hrc.some_ _ _ e2
  have c3 := hrc.some_ _ _ e3
  have c4 := hrc.some_ _ _ e4
  rw [addr_add] at c0 c1 c2 c3 c4
  rw [← Nat.add_assoc] at c1 c2 c3 c4
  exact ⟨g, o, hpa, c0, c1, c2, c3, c4⟩
theorem Sat.rf_cell {E : Env} {w : World} {q : HP} {y : Nat} {room fuse : Int} {g o n cF : Nat} {fs : List RF} {L : List (Value × List Int)} {k : Nat} {f : RF} (hn : n = fs.length) (hk : fs[k]? = some f) (h : Sat E w (HP.rdk y room fuse (.slice (some ⟨g, o, none⟩) n cF) fs L * q)) :
    w.cell? ⟨y, 1, none⟩ = some (.slice (some ⟨g, o, none⟩) n cF) ∧ w.cell? ⟨g, o + k * 2, none⟩ = some (.string f.name) ∧ w.cell? ⟨g, o + k * 2 + 1, none⟩ = some f.val := by
  obtain ⟨g', o', VA, VC, hFA, hval, -, c0, c1⟩ := h.rf_at hn hk
  cases hFA
  rw [hval]
  exact ⟨by have := h.rdk_parts.cell 1; simpa using this, c0, c1⟩
theorem Sat.rc_cell {E : Env} {w : World} {q : HP} {y : Nat} {room fuse : Int} {v : Value} {fs : List RF} {L : List (Value × List Int)} {k : Nat} {f : RF} {g o vn VC i : Nat} {x : RC} (hk : fs[k]? = some f) (hval : f.val = .slice (some ⟨g, o, none⟩) vn VC) (hi : f.cs[i]? = some x) (h : Sat E w (HP.rdk y room fuse v fs L * q)) :
    w.cell? ⟨g, o + i * 5, none⟩ = some x.vr ∧ w.cell? ⟨g, o + i * 5 + 1, none⟩ = some x.vd ∧ w.cell? ⟨g, o + i * 5 + 2, none⟩ = some x.vs ∧ w.cell? ⟨g, o + i * 5 + 3, none⟩ = some x.vw ∧ w.cell? ⟨g, o + i * 5 + 4, none⟩ = some (.bool x.c.waits) := by
  obtain ⟨g', o', hA, h5⟩ := h.rc_at hk hval hi
  cases hA
  exact h5
theorem Sat.img_cells {E : Env} {w : World} {q : HP} {L : List (Value × List Int)} {A : Option Addr} {c : Nat} {b : List Int} (hm : (Value.slice A 128 c, b) ∈ L) (h : Sat E w (HP.imgs L * q)) : Cells w A (b8s b) := by
  obtain ⟨A', c', hx, -, -, h5⟩ := h.img hm
  cases hx
  exact h5
theorem Sat.rdk_imgs {E : Env} {w : World} {q : HP} {y : Nat} {room fuse : Int} {v : Value} {fs : List RF} {L : List (Value × List Int)} (h : Sat E w (HP.rdk y room fuse v fs L * q)) : Sat E w (HP.imgs L * (HP.pt y (.cells #[.int .i64 room, v, .int .i64 fuse] 158) * (HP.row 174 2 v fs.length (fs.flatMap RF.vals) * (HP.all (fs.map HP.rcs) * q)))) := h.rdk_parts.s4
theorem rd_cel {A : Dk} {fs : List RF} {L : List (Value × List Int)} (hv : RView A fs L) (name : ByteArray) (i : Int) :
    (∃ (k : Nat) (f : RF) (j : Nat) (x : RC), plI fs name = k ∧ fs[k]? = some f ∧ f.name = name ∧ i = j ∧ f.cs[j]? = some x ∧ A.cel name i = some x.c ∧ (A.at name).length = f.cs.length) ∨ (A.cel name i = none ∧ (i < 0 ∨ ((A.at name).length : Int) ≤ i)) := by
  unfold Dk.cel
  by_cases h0 : 0 ≤ i
  · obtain ⟨j, rfl⟩ := Int.eq_ofNat_of_zero_le h0
    rw [if_pos h0]
    rcases plI_cases fs name with ⟨k, f, h1, h2, h3, h4⟩ | ⟨h1, h2⟩
    · have hat : A.at name = f.cs.map (·.c) := by rw [← h3]; exact hv.at_some h2 (by rw [h3]; exact h4)
      by_cases hj : j < f.cs.length
      · refine .inl ⟨k, f, j, f.cs[j], h1, h2, h3, rfl, List.getElem?_eq_getElem hj, ?_, by rw [hat, List.length_map]⟩
        rw [hat]
        simp [hj]
      · refine .inr ⟨?_, .inr ?_⟩
        · rw [hat]; simp; omega
        · rw [hat, List.length_map]; omega
    · rw [hv.at_none h2]
      exact .inr ⟨by simp, .inr (by simp)⟩
  · rw [if_neg h0]
    exact .inr ⟨rfl, .inl (by omega)⟩
set_option maxHeartbeats 2000000 in
set_option maxRecDepth 100000 in
theorem ref_read (E : Env) (q : HP) (y : Nat) (A : Dk) (v : Value) (fs : List RF) (L : List (Value × List Int)) (name : ByteArray) (i : Int) (w : World) (hv : RView A fs L) (hw : Sat E w (HP.rdk y A.room A.fuse v fs L * q)) :
    Calls Tryz.prog 90 #[.pointer (some ⟨y, 0, none⟩), .string name, .int .i64 i] w (readEnd E (HP.rdk y A.room A.fuse v fs L * q) (A.cel name i)) := by
  obtain ⟨FA, cF, rfl, hcF, hcM⟩ := hw.rdk_parts.s2.row_slice
  obtain ⟨R, hR⟩ : ∃ R : Int, R = ((A.at name).length : Int) := ⟨_, rfl⟩
  obtain ⟨n, hn⟩ : ∃ n, n = fs.length := ⟨_, rfl⟩
  have hfl := hv.flen
  rw [← hn] at hcF hw hfl ⊢
  have HN := Aside.mk hn
  have HW := Aside.mk hw
  have HE := Aside.mk (ref_extents E q y A (.slice FA n cF) fs L name w hv hw)
  rw [← hR] at HE
  clear hn hw
  rcases rd_cel hv name i with ⟨k, f, j, x, h1, h2, h3, rfl, h5, h6, h7⟩ | ⟨h6, h7⟩
  · rw [h6]
    have HV := Aside.mk hv
    have HF := Aside.mk (And.intro h2 h5)
    have HX := Aside.mk (hv.imgs f (List.mem_of_getElem? h2) x (List.mem_of_getElem? h5)).1
    have HPL := Aside.mk h1
    have hlen : Aside (x.c.read.length = 128) := ⟨by
      have hm : (f.name, f.cs.map (·.c)) ∈ A.files := by rw [← hv.same]; exact List.mem_map.2 ⟨f, List.mem_of_getElem? h2, rfl⟩
      exact (hv.fine.cels _ hm x.c (List.mem_map.2 ⟨x, List.mem_of_getElem? h5, rfl⟩)).1⟩
    have hRj : (j : Int) < R := by rw [hR, h7]; have := (List.getElem?_eq_some_iff.1 h5).1; omega
    have hj0 : (0 : Int) ≤ (j : Int) := by omega
    clear hv h1 h2 h3 h5 h6 h7 hR
    obtain ⟨fuse, hfu⟩ : ∃ fuse, fuse = A.fuse := ⟨_, rfl⟩
    obtain ⟨room, hro⟩ : ∃ room, room = A.room := ⟨_, rfl⟩
    rw [← hfu, ← hro] at HW HE ⊢
    clear hfu hro HV
    go_enter Tryz.func90, Tryz.ntmps90
    go_wp2_with fail
    refine HE.out.mono ?_
    rintro e w1 ⟨rfl, h1⟩
    have HS := Aside.mk h1
    clear h1 HE HW
    obtain ⟨g, o, VA, VC, rfl, hval, hvc, -, -⟩ := HS.out.rf_at HN.out HF.out.1
    obtain ⟨vn, hvn⟩ : ∃ vn, vn = f.cs.length := ⟨_, rfl⟩
    rw [← hvn] at hval
    obtain ⟨gc, oc, rfl, -⟩ := HS.out.rc_at HF.out.1 hval HF.out.2
    have hin : (j : Int) < (vn : Int) := by rw [hvn]; have := (List.getElem?_eq_some_iff.1 HF.out.2).1; omega
    have hk0 : (0 : Int) ≤ (k : Int) := by omega
    have hk1 : (k : Int) < (n : Int) := by rw [HN.out]; have := (List.getElem?_eq_some_iff.1 HF.out.1).1; omega
    obtain ⟨IA, IC, hx, hic, him, -⟩ := HS.out.rdk_imgs.img HX.out
    have HC : Aside (∀ W, Sat E W (HP.rdk y room fuse (.slice (some ⟨g, o, none⟩) n cF) fs L * q) → W.cell? ⟨y, 1, none⟩ = some (.slice (some ⟨g, o, none⟩) n cF) ∧ W.cell? ⟨g, o + k * 2 + 1, none⟩ = some (.slice (some ⟨gc, oc, none⟩) vn VC) ∧ W.cell? ⟨gc, oc + j * 5, none⟩ = some (.slice IA 128 IC) ∧ Cells W IA (b8s x.c.read)) := ⟨fun W h => by
      have h1 := h.rf_cell HN.out HF.out.1
      have h2 := h.rc_cell HF.out.1 hval HF.out.2
      rw [hval] at h1
      rw [hx] at h2
      exact ⟨h1.1, h1.2.2, h2.1, h.rdk_imgs.img_cells (by rw [← hx]; exact HX.out)⟩⟩
    clear hval hvc hvn hx
    go_wp2
    refine region_R [0, 7, 15] [0, 7] (fun W => Sat E W (HP.rdk y room fuse (.slice (some ⟨g, o, none⟩) n cF) fs L * q)) #[false, false, false, false, false, false, false, false, false, false, false, false, false, false, false, false, false, false] (by kernel_rfl) rfl rfl ?_
    have HT : Aside ((fun W => Sat E W (HP.rdk y room fuse (.slice (some ⟨g, o, none⟩) n cF) fs L * q)) _) := ⟨HS.out.drew⟩
    refine wpR_pu 1 #[false, true, false, false, false, false, false, false, false, false, false, false, false, false, false, false, false, false] rfl onlyN_noPanic (by kernel_rfl) (fun K hK => ?_); (go_simp; try go_bits); refine hK _ ?_; clear hK K
    refine wpR_pu 2 #[false, true, true, false, false, false, false, false, false, false, false, false, false, false, false, false, false, false] rfl onlyN_noPanic (by kernel_rfl) (fun K hK => ?_); (go_simp; try go_bits); refine hK _ ?_; clear hK K
    refine wpR_pu 3 #[false, true, true, true, false, false, false, false, false, false, false, false, false, false, false, false, false, false] rfl onlyN_noPanic (by kernel_rfl) (fun K hK => ?_); (go_simp; try go_bits); refine hK _ ?_; clear hK K
    refine wpR_held (i := 4) (v := .slice (some ⟨g, o, none⟩) n cF) #[false, true, true, true, true, false, false, false, false, false, false, false, false, false, false, false, false, false] rfl onlyN_noPanic (by kernel_rfl) HT.out (.inl ⟨rfl, fun w' hT => ?_⟩) ?_
    · obtain ⟨t1, t2, t3, -⟩ := HC.out _ hT; go_simp
    simp only [Act.put, List.setIfInBounds_toArray, List.set_cons_zero, List.set_cons_succ]
    refine wpR_pu 5 #[false, true, true, true, true, true, false, false, false, false, false, false, false, false, false, false, false, false] rfl onlyN_noPanic (by kernel_rfl) (fun K hK => ?_); (go_simp; try go_bits); refine hK _ ?_; clear hK K
    refine wpR_pu 6 #[false, true, true, true, true, true, true, false, false, false, false, false, false, false, false, false, false, false] rfl onlyN_noPanic (by kernel_rfl) (fun K hK => ?_); (go_simp; try go_bits); refine hK _ ?_; clear hK K
    refine wpR_pu 11 #[false, true, true, true, true, true, true, false, false, false, false, true, false, false, false, false, false, false] rfl onlyN_noPanic (by kernel_rfl) (fun K hK => ?_); (go_simp; try go_bits); refine hK _ ?_; clear hK K
    clear HT
    have HS0 := Aside.mk HS.out.drew
    clear HS
    revert HS0
    generalize World.drew w1 = W0
    intro HS0
    apply share
    · intro hsh0
      refine wpR_many [0, 7] rfl (by kernel_rfl) ?_
      refine List.forall_mem_cons.2 ⟨?_, List.forall_mem_cons.2 ⟨?_, (fun _ h => by cases h)⟩⟩
      · refine br_keep #[true, true, true, true, true, true, true, false, false, false, false, true, false, false, false, false, false, false] rfl (by kernel_rfl) (fun K hK => ?_)
        go_simp
        obtain ⟨W1, hW1⟩ : ∃ x, x = World.alloc W0 (.cells #[] 5) := ⟨_, rfl⟩
        have hn1 : Sat E W1 (HP.rdk y room fuse (.slice (some ⟨g, o, none⟩) n cF) fs L * q) := by rw [hW1]; exact (HS0.out.alloc _).right
        rw [← hW1]
        refine hK _ _ hn1 ?_
        clear hK K hW1
        generalize World.heap W0 = hp0
        generalize Array.size hp0 = gE
        have HS1 : Aside (Sat E W1 (HP.rdk y room fuse (.slice (some ⟨g, o, none⟩) n cF) fs L * q)) := ⟨hn1.perm (by ac_rfl)⟩
        clear hn1
        refine wpR_keep #[true, true, true, true, true, true, true, true, false, false, false, true, false, false, false, false, false, false] (i := 7) rfl (by kernel_rfl) (fun K hK => ?_)
        go_simp
        refine (ref_place E q y room fuse _ fs L name _ (by rw [← HN.out]; exact hfl) HS1.out).mono ?_
        rintro e W2 ⟨rfl, hn2⟩
        rw [HPL.out]
        refine hK _ _ hn2 ?_
        clear hK K
        have HS2 : Aside (Sat E W2 (HP.rdk y room fuse (.slice (some ⟨g, o, none⟩) n cF) fs L * q)) := ⟨hn2.perm (by ac_rfl)⟩
        clear hn2 HS1
        have HT : Aside ((fun W => Sat E W (HP.rdk y room fuse (.slice (some ⟨g, o, none⟩) n cF) fs L * q)) W2) := ⟨HS2.out⟩
        refine wpR_rd 8 #[true, true, true, true, true, true, true, true, true, false, false, true, false, false, false, false, false, false] rfl onlyN_noPanic (by kernel_rfl) (fun K hK => ?_); (go_simp; try go_bits); refine hK _ ?_; clear hK K
        refine wpR_rd 9 #[true, true, true, true, true, true, true, true, true, true, false, true, false, false, false, false, false, false] rfl onlyN_noPanic (by kernel_rfl) (fun K hK => ?_); (go_simp; try go_bits); refine hK _ ?_; clear hK K
        refine wpR_held (i := 10) (v := .slice (some ⟨gc, oc, none⟩) vn VC) #[true, true, true, true, true, true, true, true, true, true, true, true, false, false, false, false, false, false] rfl onlyN_noPanic (by kernel_rfl) HT.out (.inl ⟨rfl, fun w' hT => ?_⟩) ?_
        · obtain ⟨t1, t2, t3, -⟩ := HC.out _ hT; go_simp
        simp only [Act.put, List.setIfInBounds_toArray, List.set_cons_zero, List.set_cons_succ]
        refine wpR_rd 12 #[true, true, true, true, true, true, true, true, true, true, true, true, true, false, false, false, false, false] rfl onlyN_noPanic (by kernel_rfl) (fun K hK => ?_); (go_simp; try go_bits); refine hK _ ?_; clear hK K
        refine wpR_rd 13 #[true, true, true, true, true, true, true, true, true, true, true, true, true, true, false, false, false, false] rfl onlyN_noPanic (by kernel_rfl) (fun K hK => ?_); (go_simp; try go_bits); refine hK _ ?_; clear hK K
        refine wpR_held (i := 14) (v := .slice IA 128 IC) #[true, true, true, true, true, true, true, true, true, true, true, true, true, true, true, false, false, false] rfl onlyN_noPanic (by kernel_rfl) HT.out (.inl ⟨rfl, fun w' hT => ?_⟩) ?_
        · obtain ⟨t1, t2, t3, -⟩ := HC.out _ hT; go_simp
        simp only [Act.put, List.setIfInBounds_toArray, List.set_cons_zero, List.set_cons_succ]
        clear HT
        revert HS2
        revert W2
        revert gE
        exact hsh0
      · refine br_keep #[false, true, true, true, true, true, true, true, false, false, false, true, false, false, false, false, false, false] rfl (by kernel_rfl) (fun K hK => ?_)
        go_simp
        refine (ref_place E q y room fuse _ fs L name _ (by rw [← HN.out]; exact hfl) HS0.out).mono ?_
        rintro e W3 ⟨rfl, hn3⟩
        rw [HPL.out]
        refine hK _ _ hn3 ?_
        clear hK K
        have HS3 : Aside (Sat E W3 (HP.rdk y room fuse (.slice (some ⟨g, o, none⟩) n cF) fs L * q)) := ⟨hn3.perm (by ac_rfl)⟩
        clear hn3
        have HT : Aside ((fun W => Sat E W (HP.rdk y room fuse (.slice (some ⟨g, o, none⟩) n cF) fs L * q)) W3) := ⟨HS3.out⟩
        refine wpR_pu 8 #[false, true, true, true, true, true, true, true, true, false, false, true, false, false, false, false, false, false] rfl onlyN_noPanic (by kernel_rfl) (fun K hK => ?_); (go_simp; try go_bits); refine hK _ ?_; clear hK K
        refine wpR_pu 9 #[false, true, true, true, true, true, true, true, true, true, false, true, false, false, false, false, false, false] rfl onlyN_noPanic (by kernel_rfl) (fun K hK => ?_); (go_simp; try go_bits); refine hK _ ?_; clear hK K
        refine wpR_held (i := 10) (v := .slice (some ⟨gc, oc, none⟩) vn VC) #[false, true, true, true, true, true, true, true, true, true, true, true, false, false, false, false, false, false] rfl onlyN_noPanic (by kernel_rfl) HT.out (.inl ⟨rfl, fun w' hT => ?_⟩) ?_
        · obtain ⟨t1, t2, t3, -⟩ := HC.out _ hT; go_simp
        simp only [Act.put, List.setIfInBounds_toArray, List.set_cons_zero, List.set_cons_succ]
        refine wpR_pu 12 #[false, true, true, true, true, true, true, true, true, true, true, true, true, false, false, false, false, false] rfl onlyN_noPanic (by kernel_rfl) (fun K hK => ?_); (go_simp; try go_bits); refine hK _ ?_; clear hK K
        refine wpR_pu 13 #[false, true, true, true, true, true, true, true, true, true, true, true, true, true, false, false, false, false] rfl onlyN_noPanic (by kernel_rfl) (fun K hK => ?_); (go_simp; try go_bits); refine hK _ ?_; clear hK K
        refine wpR_held (i := 14) (v := .slice IA 128 IC) #[false, true, true, true, true, true, true, true, true, true, true, true, true, true, true, false, false, false] rfl onlyN_noPanic (by kernel_rfl) HT.out (.inl ⟨rfl, fun w' hT => ?_⟩) ?_
        · obtain ⟨t1, t2, t3, -⟩ := HC.out _ hT; go_simp
        simp only [Act.put, List.setIfInBounds_toArray, List.set_cons_zero, List.set_cons_succ]
        clear HT
        refine wpR_keep #[true, true, true, true, true, true, true, true, true, true, true, true, true, true, true, false, false, false] (i := 0) rfl (by kernel_rfl) (fun K hK => ?_)
        go_simp
        obtain ⟨W4, hW4⟩ : ∃ x, x = World.alloc W3 (.cells #[] 5) := ⟨_, rfl⟩
        have hn4 : Sat E W4 (HP.rdk y room fuse (.slice (some ⟨g, o, none⟩) n cF) fs L * q) := by rw [hW4]; exact (HS3.out.alloc _).right
        rw [← hW4]
        refine hK _ _ hn4 ?_
        clear hK K hW4
        generalize World.heap W3 = hp0
        generalize Array.size hp0 = gE
        have HS4 : Aside (Sat E W4 (HP.rdk y room fuse (.slice (some ⟨g, o, none⟩) n cF) fs L * q)) := ⟨hn4.perm (by ac_rfl)⟩
        clear hn4 HS3
        revert HS4
        revert W4
        revert gE
        exact hsh0
    · intro gE W5 HS5
      refine wpR_eff #[true, true, true, true, true, true, true, true, true, true, true, true, true, true, true, true, false, false] (i := 15) rfl (by kernel_rfl) (fun K hK => ?_)
      refine Eq.mpr (if_pos (by rfl)) ?_
      refine wp_append_row (v := .slice (some ⟨gE, 0, none⟩) 0 0) (n := 0) (cs := []) (A := IA) (m := 128) (c := IC) (news := b8s x.c.read) slB8 rfl rfl rfl (HS5.out.row_nil 5 1 _) (HC.out _ HS5.out).2.2.2 (by rw [b8s_length]; exact hlen.out) (b8s_one _) (by unfold maxLen; omega) (by omega) (fun v6 W6 hn6 => ?_)
      rw [List.nil_append] at hn6
      refine hK _ _ ?_
      clear hK K
      have HS6 : Aside (Sat E W6 (HP.row 5 1 v6 128 (b8s x.c.read) * (HP.rdk y room fuse (.slice (some ⟨g, o, none⟩) n cF) fs L * q))) := ⟨hn6.perm (by ac_rfl)⟩
      clear hn6 HS5
      refine wpR_rd 16 #[true, true, true, true, true, true, true, true, true, true, true, true, true, true, true, true, true, false] rfl onlyN_noPanic (by kernel_rfl) (fun K hK => ?_); (go_simp; try go_bits); refine hK _ ?_; clear hK K
      refine wpR_rd 17 #[true, true, true, true, true, true, true, true, true, true, true, true, true, true, true, true, true, true] rfl onlyN_noPanic (by kernel_rfl) (fun K hK => ?_); (go_simp; try go_bits); refine hK _ ?_; clear hK K
      refine wpR_done (by kernel_rfl) ?_ _
      simp only [OnlyN]
      go_wp2
      go_ret2
      exact ⟨v6, rfl, HS6.out⟩
  · rw [h6]
    unfold readEnd
    dsimp only
    clear h6 hv
    by_cases hi : i < 0
    · have hW := HW
      clear h7 hR
      go_enter Tryz.func90, Tryz.ntmps90
      go_wp2
      go_ret2
      exact ⟨rfl, HW.out⟩
    · have hRi : R ≤ i := by rw [hR]; omega
      clear h7 hR
      go_enter Tryz.func90, Tryz.ntmps90
      go_wp2_with fail
      refine HE.out.mono ?_
      rintro e w1 ⟨rfl, h1⟩
      have HS := Aside.mk h1
      clear h1
      go_wp2
      go_ret2
      exact ⟨rfl, HS.out⟩
end Go.Proofs.YtnpinegpajbkeaaGreatDoor
namespace Go.Proofs.YtnpinegpajbkeaaGreatDoor
open Go.RowKit HP
theorem ltN_asymm {a b : ByteArray} (h : ltN a b = true) : ltN b a = false := by
  cases hb : ltN b a with
  | false => rfl
  | true => have := ltN_trans h hb; rw [ltN_irrefl] at this; cases this
theorem ltN_ne {a b : ByteArray} (h : ltN a b = true) : a ≠ b := fun e => by subst e; rw [ltN_irrefl] at h; cases h
section
variable {α : Type}
theorem putF_at {s : ByteArray} {v : α} : ∀ {l : List (ByteArray × α)} {k : Nat} {u : α}, Sorted l → l[k]? = some (s, u) → putF l s v = l.set k (s, v)
  | [], k, u, _, h => by cases h
  | (t, x) :: l, k, u, hs, h => by
    unfold putF
    cases k with
    | zero =>
      simp only [List.getElem?_cons_zero, Option.some.injEq, Prod.mk.injEq] at h
      rw [if_pos h.1]; rfl
    | succ k =>
      simp only [List.getElem?_cons_succ] at h
      have hlt := (List.pairwise_cons.1 hs).1 _ (List.mem_of_getElem? h)
      rw [if_neg (ltN_ne hlt), if_neg (by rw [ltN_asymm hlt]; decide), List.set_cons_succ, putF_at (List.pairwise_cons.1 hs).2 h]
theorem putF_new {s : ByteArray} {v : α} : ∀ {l : List (ByteArray × α)} {k : Nat}, (∀ j < k, ∀ x, l[j]? = some x → ltN x.1 s = true) → k ≤ l.length → (∀ x, l[k]? = some x → x.1 ≠ s ∧ ltN x.1 s = false) → putF l s v = l.take k ++ (s, v) :: l.drop k
  | [], k, _, hk, _ => by
    have : k = 0 := by simpa using hk
    subst this; rfl
  | (t, x) :: l, k, h, hk, hx => by
    unfold putF
    cases k with
    | zero =>
      obtain ⟨h1, h2⟩ := hx (t, x) rfl
      rw [if_neg h1, if_pos (ltN_total h2 h1)]
      rfl
    | succ k =>
      have h0 := h 0 (by omega) (t, x) rfl
      rw [if_neg (ltN_ne h0), if_neg (by rw [ltN_asymm h0]; decide), putF_new (k := k) (fun j hj y hy => h (j + 1) (by omega) y (by simpa using hy)) (by simpa using hk) (fun y hy => hx y (by simpa using hy))]
      rfl
theorem delF_at {s : ByteArray} : ∀ {l : List (ByteArray × α)} {k : Nat} {u : α}, Sorted l → l[k]? = some (s, u) → delF l s = l.take k ++ l.drop (k + 1)
  | [], k, u, _, h => by cases h
  | (t, x) :: l, k, u, hs, h => by
    obtain ⟨h1, h2⟩ := List.pairwise_cons.1 hs
    unfold delF
    cases k with
    | zero =>
      simp only [List.getElem?_cons_zero, Option.some.injEq, Prod.mk.injEq] at h
      obtain ⟨rfl, rfl⟩ := h
      rw [List.filter_cons_of_neg (by simp)]
      simp only [List.take_zero, List.nil_append, List.drop_succ_cons, List.drop_zero]
      exact List.filter_eq_self.2 fun y hy => by
        have := ltN_ne (h1 y hy)
        simpa using fun e => this e.symm
    | succ k =>
      simp only [List.getElem?_cons_succ] at h
      have hlt := h1 _ (List.mem_of_getElem? h)
      rw [List.filter_cons_of_pos (by simpa using ltN_ne hlt)]
      have := delF_at h2 h
      unfold delF at this
      rw [this]
      rfl
end
theorem flat_set {α : Type} (f : α → List Value) (n : Nat) (hn : ∀ x, (f x).length = n) : ∀ (l : List α) (i t : Nat) (x x' : α) (u : Value), l[i]? = some x → t < n → f x' = (f x).set t u → (l.set i x').flatMap f = (l.flatMap f).set (i * n + t) u
  | [], i, t, x, x', u, h, _, _ => by cases h
  | y :: l, i, t, x, x', u, h, ht, he => by
    cases i with
    | zero =>
      simp only [List.getElem?_cons_zero, Option.some.injEq] at h
      subst h
      rw [List.set_cons_zero, List.flatMap_cons, List.flatMap_cons, he, List.set_append_left _ _ (by rw [hn]; omega), Nat.zero_mul, Nat.zero_add]
    | succ i =>
      simp only [List.getElem?_cons_succ] at h
      rw [List.set_cons_succ, List.flatMap_cons, List.flatMap_cons, flat_set f n hn l i t x x' u h ht he, List.set_append_right _ _ (by rw [hn, Nat.add_mul]; omega), hn]
      congr 2
      rw [Nat.add_mul]; omega
theorem set_self {α : Type} {l : List α} {i : Nat} {x : α} (h : l[i]? = some x) : l.set i x = l := by
  apply List.ext_getElem?
  intro j
  rw [List.getElem?_set]
  split
  · rename_i e
    subst e
    rw [h]
    simp [(List.getElem?_eq_some_iff.1 h).1]
  · rfl
def setRC (fs : List RF) (k i : Nat) (x : RC) : List RF := fs.modify k fun f => { f with cs := f.cs.set i x }
theorem setRC_get {fs : List RF} {k i : Nat} {x : RC} {f : RF} (hk : fs[k]? = some f) : setRC fs k i x = fs.set k { f with cs := f.cs.set i x } := by
  unfold setRC
  apply List.ext_getElem?
  intro j
  rw [List.getElem?_modify, List.getElem?_set]
  by_cases h : k = j
  · subst h
    obtain ⟨hlt, he⟩ := List.getElem?_eq_some_iff.1 hk
    rw [hk]
    simp [hlt]
  · simp [h]
theorem setRC_len (fs : List RF) (k i : Nat) (x : RC) : (setRC fs k i x).length = fs.length := by unfold setRC; rw [List.length_modify]
section
variable {E : Env} {w : World} {q : HP} {y : Nat} {room fuse : Int} {v : Value} {fs : List RF} {L : List (Value × List Int)} {k : Nat} {f : RF} {g o vn VC i : Nat} {x : RC}
theorem rf_same {f f' : RF} (hn : f'.name = f.name) (hv : f'.val = f.val) (hk : fs[k]? = some f) : (fs.set k f').flatMap RF.vals = fs.flatMap RF.vals := by
  have h := flat_set RF.vals 2 (fun _ => rfl) fs k 0 f f' (.string f.name) hk (by omega) (by unfold RF.vals; rw [hn, hv]; rfl)
  rw [h]
  exact set_self (rf_get hk).1
theorem Sat.rc_thaw (hk : fs[k]? = some f) (hval : f.val = .slice (some ⟨g, o, none⟩) vn VC) {t : Nat} (ht : t < f.cs.length * 5) (h : Sat E w (HP.rdk y room fuse v fs L * q)) : w.frozen? ⟨g, o + t, none⟩ = false := by
  obtain ⟨r, hr⟩ := all_mem (List.mem_map.2 ⟨f, List.mem_of_getElem? hk, rfl⟩ : HP.rcs f ∈ fs.map HP.rcs)
  have h2 := h.rdk_parts.s3
  rw [hr] at h2
  unfold HP.rcs at h2
  have h3 := h2.perm (HP.mul_assoc _ _ _)
  have hvn : f.cs.length = vn := by
    rw [hval] at h3
    obtain ⟨A, c, hs, -, -⟩ := h3.row_slice
    cases hs; rfl
  rw [hval, hvn] at h3
  exact h3.row_thaw t (by have := h3.row_cases.1; rw [this]; omega)
theorem Sat.rc_store (hk : fs[k]? = some f) (hval : f.val = .slice (some ⟨g, o, none⟩) vn VC) (hi : f.cs[i]? = some x) (x' : RC) {t : Nat} {u : Value} (ht : t < 5) (he : x'.vals = x.vals.set t u) (h : Sat E w (HP.rdk y room fuse v fs L * q)) :
    Sat E (w.setCell ⟨g, o + (i * 5 + t), none⟩ u) (HP.rdk y room fuse v (setRC fs k i x') L * q) := by
  have h2 := h.rdk_parts.s3
  have hm : (fs.map HP.rcs)[k]? = some (HP.rcs f) := by rw [List.getElem?_map, hk]; rfl
  rw [all_take hm] at h2
  unfold HP.rcs at h2
  have h3 := h2.perm (HP.mul_assoc _ _ _)
  have hvn : f.cs.length = vn := by
    rw [hval] at h3
    obtain ⟨A, c, hs, -, -⟩ := h3.row_slice
    cases hs; rfl
  rw [hval, hvn] at h3
  have hlt := (List.getElem?_eq_some_iff.1 hi).1
  have h4 := h3.row_set (i * 5 + t) (by
    have := h3.row_cases.1
    rw [this]
    have : i * 5 + 5 ≤ vn * 5 := by rw [← hvn]; omega
    omega) u
  rw [← flat_set RC.vals 5 (fun _ => rfl) f.cs i t x x' u hi ht he] at h4
  refine Sat.rdk_join ?_
  rw [setRC_get hk]
  have e1 : (fs.set k { f with cs := f.cs.set i x' }).flatMap RF.vals = fs.flatMap RF.vals := rf_same (f := f) rfl rfl hk
  have e2 : HP.all ((fs.set k { f with cs := f.cs.set i x' }).map HP.rcs) = HP.rcs { f with cs := f.cs.set i x' } * HP.all ((fs.map HP.rcs).eraseIdx k) := by
    rw [all_take (j := k) (p := HP.rcs { f with cs := f.cs.set i x' }) (by rw [List.getElem?_map, List.getElem?_set_self (List.getElem?_eq_some_iff.1 hk).1]; rfl), List.map_set, List.eraseIdx_set_eq]
  rw [e1, e2, List.length_set]
  have e3 : HP.rcs { f with cs := f.cs.set i x' } = HP.row 176 5 (.slice (some ⟨g, o, none⟩) vn VC) vn ((f.cs.set i x').flatMap RC.vals) := by
    unfold HP.rcs
    rw [List.length_set, hvn]
    show HP.row _ 5 f.val vn _ = _
    rw [hval]
  rw [e3]
  exact h4.perm (by ac_rfl)
theorem RView.setRC {A : Dk} {L' : List (Value × List Int)} (hv : RView A fs L) (hk : fs[k]? = some f) (hi : f.cs[i]? = some x) {x' : RC} (hL : ∀ z ∈ L, z ∈ L') (hx : x'.In L') (hf : x'.c.Fine) : RView (A.set f.name ((f.cs.map (·.c)).set i x'.c)) (setRC fs k i x') L' := by
  have hm : (f.name, f.cs.map (·.c)) ∈ A.files := by rw [← hv.same]; exact List.mem_map.2 ⟨f, List.mem_of_getElem? hk, rfl⟩
  have hkA : A.files[k]? = some (f.name, f.cs.map (·.c)) := by rw [← hv.same, List.getElem?_map, hk]; rfl
  refine ⟨?_, ?_, ?_⟩
  · unfold Dk.set
    rw [putF_at hv.fine.sorted hkA, setRC_get hk, ← hv.same, List.map_set]
    simp [List.map_set]
  · intro f' hf' z hz
    rw [setRC_get hk] at hf'
    have mono : ∀ {z : RC}, z.In L → z.In L' := fun h => ⟨hL _ h.1, hL _ h.2.1, hL _ h.2.2.1, hL _ h.2.2.2⟩
    rcases List.mem_or_eq_of_mem_set hf' with hf' | rfl
    · exact mono (hv.imgs f' hf' z hz)
    · rcases List.mem_or_eq_of_mem_set hz with hz | rfl
      · exact mono (hv.imgs f (List.mem_of_getElem? hk) z hz)
      · exact hx
  · have hF := hv.fine
    have hlen : sizeF (putF A.files f.name ((f.cs.map (·.c)).set i x'.c)) = sizeF A.files := by
      rw [putF_at hF.sorted hkA]
      unfold sizeF
      rw [List.map_set, List.length_set]
      rw [set_self (by rw [List.getElem?_map, hkA]; simp)]
    refine Dk.Fine.set hF (hF.named _ hm).1 ?_ ?_ (by rw [hlen]; exact hF.fits)
    · intro h0
      have h1 := congrArg List.length h0
      rw [List.length_set, List.length_map, List.length_nil] at h1
      have := (List.getElem?_eq_some_iff.1 hi).1
      omega
    · intro c hc
      rcases List.mem_or_eq_of_mem_set hc with hc | rfl
      · exact hF.cels _ hm c hc
      · exact hf
end
end Go.Proofs.YtnpinegpajbkeaaGreatDoor
namespace Go.Proofs.YtnpinegpajbkeaaGreatDoor
open Go.RowKit HP
theorem rg_get {l : List Int} {t : Nat} (ht : t < l.length) : (b8s l)[t]? = some (.int .u8 (l.getD t 0)) := by
  unfold b8s
  rw [List.getElem?_map, List.getD_eq_getElem?_getD, List.getElem?_eq_getElem ht]
  rfl
theorem Sat.rdk_imgs_in {E : Env} {w : World} {q : HP} {y : Nat} {room fuse : Int} {v : Value} {fs : List RF} {L : List (Value × List Int)} {z : Value × List Int} (h : Sat E w (HP.rdk y room fuse v fs L * (HP.row 5 1 z.1 128 (b8s z.2) * q))) : Sat E w (HP.rdk y room fuse v fs (z :: L) * q) := by
  have h1 := h.rdk_imgs
  have h2 : Sat E w (HP.row 5 1 z.1 128 (b8s z.2) * (HP.imgs L * (HP.pt y (.cells #[.int .i64 room, v, .int .i64 fuse] 158) * (HP.row 174 2 v fs.length (fs.flatMap RF.vals) * (HP.all (fs.map HP.rcs) * q))))) := h1.perm (by ac_rfl)
  have h3 := Sat.img_push (x := z.1) (b := z.2) h2
  exact Sat.rdk_join (h3.perm (by ac_rfl))
theorem setRC_setRC {fs : List RF} {k i : Nat} {x x' : RC} : setRC (setRC fs k i x) k i x' = setRC fs k i x' := by
  unfold setRC
  rw [List.modify_modify_eq]
  congr 1
  funext f
  simp
theorem setRC_at {fs : List RF} {k i : Nat} {x : RC} {f : RF} (hk : fs[k]? = some f) (hi : i < f.cs.length) : (setRC fs k i x)[k]? = some { f with cs := f.cs.set i x } ∧ (f.cs.set i x)[i]? = some x := by
  constructor
  · rw [setRC_get hk, List.getElem?_set_self (List.getElem?_eq_some_iff.1 hk).1]
  · rw [List.getElem?_set_self hi]
theorem Sat.rdk_burn {E : Env} {w : World} {q : HP} {y : Nat} {room fuse : Int} {v : Value} {fs : List RF} {L : List (Value × List Int)} (u : Int) (h : Sat E w (HP.rdk y room fuse v fs L * q)) : Sat E (w.setCell ⟨y, 2, none⟩ (.int .i64 u)) (HP.rdk y room u v fs L * q) := by
  have h1 := h.rdk_parts.set (i := 2) (.int .i64 u)
  simp only [List.setIfInBounds_toArray, List.set_cons_zero, List.set_cons_succ] at h1
  exact h1.rdk_join
theorem RView.fuse {A : Dk} {fs : List RF} {L : List (Value × List Int)} (hv : RView A fs L) {u : Int} (hu : -1 ≤ u ∧ u ≤ 9223372036854775807) : RView { A with fuse := u } fs L := ⟨hv.same, hv.imgs, ⟨hv.fine.sorted, hv.fine.named, hv.fine.cels, hv.fine.room, hu, hv.fine.fits⟩⟩
theorem burnt_fuse {A : Dk} (h : A.Fine) : -1 ≤ A.burnt.fuse ∧ A.burnt.fuse ≤ 9223372036854775807 := by
  have := h.fuse
  unfold Dk.burnt burnI
  dsimp only
  split <;> dsimp only <;> omega
theorem RView.burnt {A : Dk} {fs : List RF} {L : List (Value × List Int)} (hv : RView A fs L) : RView A.burnt fs L := hv.fuse (burnt_fuse hv.fine)
set_option maxHeartbeats 2000000 in
set_option maxRecDepth 100000 in
theorem ref_fuse (E : Env) (q : HP) (y : Nat) (A : Dk) (u : Int) (w : World) (hu : u ≤ 9223372036854775807) (hw : Sat E w (HP.rdisk y A * q)) :
    Calls Tryz.prog 83 #[.pointer (some ⟨y, 0, none⟩), .int .i64 u] w fun e w' => (u < 0 ∧ e = .returned (.int .i64 1) ∧ Sat E w' (HP.rdisk y A * q)) ∨ (0 ≤ u ∧ e = .returned (.int .i64 0) ∧ Sat E w' (HP.rdisk y { A with fuse := u } * q)) := by
  by_cases h0 : u < 0
  · have HW := Aside.mk hw
    clear hw
    go_enter Tryz.func83, Tryz.ntmps83
    go_wp2
    go_ret
    exact .inl ⟨h0, rfl, HW.out⟩
  · have h1 : 0 ≤ u := by omega
    obtain ⟨v, fs, L, hv, hk⟩ := hw.rdisk_open
    have HV := Aside.mk hv
    have HB := Aside.mk (hk.rdk_burn u)
    have c2 := hk.rdk_parts.cell 2
    have z2 := hk.rdk_parts.thaw 2
    simp only [List.getElem?_toArray, List.getElem?_cons_zero, List.getElem?_cons_succ] at c2
    clear hw hv hk
    obtain ⟨fuse, hfu⟩ : ∃ fuse, fuse = A.fuse := ⟨_, rfl⟩
    rw [← hfu] at c2
    clear hfu
    go_enter Tryz.func83, Tryz.ntmps83
    go_wp2
    go_ret
    exact .inr ⟨rfl, Sat.rdisk_close (A := { A with fuse := u }) (HV.out.fuse ⟨by omega, hu⟩) HB.out⟩
set_option maxHeartbeats 4000000 in
set_option maxRecDepth 100000 in
theorem ref_rot (E : Env) (q : HP) (y : Nat) (A : Dk) (name : ByteArray) (i at_ mask : Int) (w : World) (hw : Sat E w (HP.rdisk y A * q)) :
    Calls Tryz.prog 80 #[.pointer (some ⟨y, 0, none⟩), .string name, .int .i64 i, .int .i64 at_, .int .u8 mask] w fun e w' => e = .returned (.int .i64 (A.rot name i at_ mask).1) ∧ Sat E w' (HP.rdisk y (A.rot name i at_ mask).2 * q) := by
  obtain ⟨v, fs, L, hv, hk⟩ := hw.rdisk_open
  clear hw
  obtain ⟨FA, cF, rfl, hcF, hcM⟩ := hk.rdk_parts.s2.row_slice
  obtain ⟨R, hR⟩ : ∃ R : Int, R = ((A.at name).length : Int) := ⟨_, rfl⟩
  obtain ⟨n, hn⟩ : ∃ n, n = fs.length := ⟨_, rfl⟩
  have hfl := hv.flen
  rw [← hn] at hcF hk hfl
  have HN := Aside.mk hn
  have HW := Aside.mk hk
  have HE := Aside.mk (ref_extents E q y A (.slice FA n cF) fs L name w hv hk)
  rw [← hR] at HE
  clear hn hk
  obtain ⟨AR, hAR⟩ : ∃ AR, AR = A.rot name i at_ mask := ⟨_, rfl⟩
  rw [← hAR]
  rcases rd_cel hv name i with ⟨k, f, j, x, h1, h2, h3, rfl, h5, h6, h7⟩ | ⟨h6, h7⟩
  · have hRj : (j : Int) < R := by rw [hR, h7]; have := (List.getElem?_eq_some_iff.1 h5).1; omega
    have hj0 : (0 : Int) ≤ (j : Int) := by omega
    have hfin : x.c.Fine := by
      have hm : (f.name, f.cs.map (·.c)) ∈ A.files := by rw [← hv.same]; exact List.mem_map.2 ⟨f, List.mem_of_getElem? h2, rfl⟩
      exact hv.fine.cels _ hm x.c (List.mem_map.2 ⟨x, List.mem_of_getElem? h5, rfl⟩)
    by_cases hat : at_ < 0 ∨ 128 ≤ at_
    · have HA : Aside (AR = (1, A)) := ⟨by rw [hAR]; unfold Dk.rot; rw [h6]; simp [hat]⟩
      have HV := Aside.mk hv
      clear hv h1 h2 h3 h5 h6 h7 hR hAR
      go_enter Tryz.func80, Tryz.ntmps80
      go_wp2_with fail
      refine HE.out.mono ?_
      rintro e w1 ⟨rfl, h1⟩
      have HS := Aside.mk h1
      clear h1 HE HW
      by_cases ha0 : at_ < 0
      · clear hat
        go_wp2
        go_ret
        rw [HA.out]
        exact ⟨rfl, Sat.rdisk_close HV.out HS.out⟩
      · have ha1 : 128 ≤ at_ := by omega
        clear hat
        go_wp2
        go_ret
        rw [HA.out]
        exact ⟨rfl, Sat.rdisk_close HV.out HS.out⟩
    · obtain ⟨a, rfl⟩ := Int.eq_ofNat_of_zero_le (show 0 ≤ at_ by omega)
      have ha : a < 128 := by omega
      have ha0 : (0 : Int) ≤ (a : Int) := by omega
      have ha1 : (a : Int) < 128 := by omega
      have hlk : A.at name = f.cs.map (·.c) := by
        rcases plI_cases fs name with ⟨k', f', p1, p2, p3, p4⟩ | ⟨p1, p2⟩
        · have : k' = k := by omega
          subst this
          rw [h2] at p2; cases p2
          rw [← p3]; exact hv.at_some h2 (by rw [p3]; exact p4)
        · omega
      have HA : Aside (AR = (0, A.set f.name ((f.cs.map (·.c)).set j (x.c.rotd a mask)))) := ⟨by
        rw [hAR]; unfold Dk.rot
        rw [h6]
        dsimp only
        rw [if_neg hat, hlk, Int.toNat_natCast, Int.toNat_natCast, h3]⟩
      have HV := Aside.mk hv
      have HF := Aside.mk (And.intro h2 h5)
      have HX := Aside.mk (hv.imgs f (List.mem_of_getElem? h2) x (List.mem_of_getElem? h5))
      have HPL := Aside.mk h1
      have HFin := Aside.mk hfin
      clear hv h1 h2 h3 h5 h6 h7 hR hAR hat hlk hfin
      obtain ⟨fuse, hfu⟩ : ∃ fuse, fuse = A.fuse := ⟨_, rfl⟩
      obtain ⟨room, hro⟩ : ∃ room, room = A.room := ⟨_, rfl⟩
      rw [← hfu, ← hro] at HW HE
      have HFR := Aside.mk (And.intro hfu hro)
      clear hfu hro
      go_enter Tryz.func80, Tryz.ntmps80
      go_wp2_with fail
      refine HE.out.mono ?_
      rintro e w1 ⟨rfl, h1⟩
      have HS := Aside.mk h1
      clear h1 HE HW
      obtain ⟨g, o, VA, VC, rfl, hval, hvc, -, -⟩ := HS.out.rf_at HN.out HF.out.1
      obtain ⟨vn, hvn⟩ : ∃ vn, vn = f.cs.length := ⟨_, rfl⟩
      rw [← hvn] at hval
      obtain ⟨gc, oc, rfl, -⟩ := HS.out.rc_at HF.out.1 hval HF.out.2
      have hin : (j : Int) < (vn : Int) := by rw [hvn]; have := (List.getElem?_eq_some_iff.1 HF.out.2).1; omega
      have hk0 : (0 : Int) ≤ (k : Int) := by omega
      have hk1 : (k : Int) < (n : Int) := by rw [HN.out]; have := (List.getElem?_eq_some_iff.1 HF.out.1).1; omega
      obtain ⟨IA, IC, hx, hic, him, -⟩ := HS.out.rdk_imgs.img HX.out.2.1
      have HC : Aside (∀ W, Sat E W (HP.rdk y room fuse (.slice (some ⟨g, o, none⟩) n cF) fs L * q) → W.cell? ⟨y, 1, none⟩ = some (.slice (some ⟨g, o, none⟩) n cF) ∧ W.cell? ⟨g, o + k * 2 + 1, none⟩ = some (.slice (some ⟨gc, oc, none⟩) vn VC) ∧ W.cell? ⟨gc, oc + j * 5 + 1, none⟩ = some (.slice IA 128 IC) ∧ Cells W IA (b8s x.c.durable)) := ⟨fun W h => by
        have h1 := h.rf_cell HN.out HF.out.1
        have h2 := h.rc_cell HF.out.1 hval HF.out.2
        rw [hval] at h1
        rw [hx] at h2
        exact ⟨h1.1, h1.2.2, h2.2.1, h.rdk_imgs.img_cells (by rw [← hx]; exact HX.out.2.1)⟩⟩
      have HVL := Aside.mk (And.intro hval hvn)
      clear hval hvc hvn hx
      go_wp2
      refine region_R [6] [6] (fun W => Sat E W (HP.rdk y room fuse (.slice (some ⟨g, o, none⟩) n cF) fs L * q)) #[false, false, false, false, false, false, false, false, false, false, false, false, false] (by kernel_rfl) rfl rfl ?_
      have HT : Aside ((fun W => Sat E W (HP.rdk y room fuse (.slice (some ⟨g, o, none⟩) n cF) fs L * q)) _) := ⟨HS.out.drew⟩
      refine wpR_pu 0 #[true, false, false, false, false, false, false, false, false, false, false, false, false] rfl onlyN_noPanic (by kernel_rfl) (fun K hK => ?_); (go_simp; try go_bits); refine hK _ ?_; clear hK K
      refine wpR_pu 1 #[true, true, false, false, false, false, false, false, false, false, false, false, false] rfl onlyN_noPanic (by kernel_rfl) (fun K hK => ?_); (go_simp; try go_bits); refine hK _ ?_; clear hK K
      refine wpR_pu 2 #[true, true, true, false, false, false, false, false, false, false, false, false, false] rfl onlyN_noPanic (by kernel_rfl) (fun K hK => ?_); (go_simp; try go_bits); refine hK _ ?_; clear hK K
      refine wpR_held (i := 3) (v := .slice (some ⟨g, o, none⟩) n cF) #[true, true, true, true, false, false, false, false, false, false, false, false, false] rfl onlyN_noPanic (by kernel_rfl) HT.out (.inl ⟨rfl, fun w' hT => ?_⟩) ?_
      · obtain ⟨t1, t2, t3, -⟩ := HC.out _ hT; go_simp
      simp only [Act.put, List.setIfInBounds_toArray, List.set_cons_zero, List.set_cons_succ]
      refine wpR_rd 4 #[true, true, true, true, true, false, false, false, false, false, false, false, false] rfl onlyN_noPanic (by kernel_rfl) (fun K hK => ?_); (go_simp; try go_bits); refine hK _ ?_; clear hK K
      refine wpR_rd 5 #[true, true, true, true, true, true, false, false, false, false, false, false, false] rfl onlyN_noPanic (by kernel_rfl) (fun K hK => ?_); (go_simp; try go_bits); refine hK _ ?_; clear hK K
      refine wpR_pu 10 #[true, true, true, true, true, true, false, false, false, false, true, false, false] rfl onlyN_noPanic (by kernel_rfl) (fun K hK => ?_); (go_simp; try go_bits); refine hK _ ?_; clear hK K
      clear HT
      have HS0 := Aside.mk HS.out.drew
      clear HS
      revert HS0
      generalize World.drew w1 = W0
      intro HS0
      refine wpR_keep #[true, true, true, true, true, true, true, false, false, false, true, false, false] (i := 6) rfl (by kernel_rfl) (fun K hK => ?_)
      go_simp
      refine (ref_place E q y room fuse _ fs L name _ (by rw [← HN.out]; exact hfl) HS0.out).mono ?_
      rintro e W1 ⟨rfl, hn1⟩
      rw [HPL.out]
      refine hK _ _ hn1 ?_
      clear hK K
      have HS1 : Aside (Sat E W1 (HP.rdk y room fuse (.slice (some ⟨g, o, none⟩) n cF) fs L * q)) := ⟨hn1.perm (by ac_rfl)⟩
      clear hn1
      have HT : Aside ((fun W => Sat E W (HP.rdk y room fuse (.slice (some ⟨g, o, none⟩) n cF) fs L * q)) W1) := ⟨HS1.out⟩
      refine wpR_rd 7 #[true, true, true, true, true, true, true, true, false, false, true, false, false] rfl onlyN_noPanic (by kernel_rfl) (fun K hK => ?_); (go_simp; try go_bits); refine hK _ ?_; clear hK K
      refine wpR_rd 8 #[true, true, true, true, true, true, true, true, true, false, true, false, false] rfl onlyN_noPanic (by kernel_rfl) (fun K hK => ?_); (go_simp; try go_bits); refine hK _ ?_; clear hK K
      refine wpR_held (i := 9) (v := .slice (some ⟨gc, oc, none⟩) vn VC) #[true, true, true, true, true, true, true, true, true, true, true, false, false] rfl onlyN_noPanic (by kernel_rfl) HT.out (.inl ⟨rfl, fun w' hT => ?_⟩) ?_
      · obtain ⟨t1, t2, t3, -⟩ := HC.out _ hT; go_simp
      simp only [Act.put, List.setIfInBounds_toArray, List.set_cons_zero, List.set_cons_succ]
      refine wpR_rd 11 #[true, true, true, true, true, true, true, true, true, true, true, true, false] rfl onlyN_noPanic (by kernel_rfl) (fun K hK => ?_); (go_simp; try go_bits); refine hK _ ?_; clear hK K
      refine wpR_rd 12 #[true, true, true, true, true, true, true, true, true, true, true, true, true] rfl onlyN_noPanic (by kernel_rfl) (fun K hK => ?_); (go_simp; try go_bits); refine hK _ ?_; clear hK K
      clear HT
      refine wpR_done (by kernel_rfl) ?_ _
      simp only [OnlyN]
      have HS9 := HS1
      clear HS1
      obtain ⟨-, -, t3, t4⟩ := HC.out _ HS9.out
      have H9 : Aside (Sat E W1 (HP.row 5 1 (.slice (some ⟨W1.heap.size, 0, none⟩) 0 0) 0 [] * (HP.rdk y room fuse (.slice (some ⟨g, o, none⟩) n cF) fs L * q)) ∧ Cells W1 IA (b8s x.c.durable) ∧ (b8s x.c.durable).length = 128) := ⟨HS9.out.row_nil _ 1 _, t4, by rw [b8s_length]; exact HFin.out.2.1⟩
      have hlt : j < f.cs.length := by have := HVL.out.2; omega
      have H10 : Aside (Sat E (World.alloc W1 (.cells #[] 5)) (HP.row 5 1 (.slice (some ⟨W1.heap.size, 0, none⟩) 0 0) 0 [] * (HP.rdk y room fuse (.slice (some ⟨g, o, none⟩) n cF) fs L * q)) ∧ Cells (World.alloc W1 (.cells #[] 5)) IA (b8s x.c.durable) ∧ (b8s x.c.durable).length = 128) := ⟨(H9.out.1.alloc _).right, H9.out.2.1.alloc _, H9.out.2.2⟩
      clear t4 HS9 H9 HS0
      have t3b : (World.alloc W1 (.cells #[] 5)).cell? ⟨gc, oc + j * 5 + 1, none⟩ = some (.slice IA 128 IC) := (HC.out _ H10.out.1.right).2.2.1
      go_wp2_with (at_builtin; refine wpList_append_row slB8 rfl rfl (by rfl) (by rfl) H10.out.1 H10.out.2.1 (by rw [H10.out.2.2]) (b8s_one _) (by unfold maxLen; omega) (by omega) (fun v6 w6 h6 => ?_); rw [List.nil_append, Nat.zero_add] at h6; obtain ⟨A6, c6, rfl, hc6, hm6⟩ := h6.row_slice; have H6 := Aside.mk h6; clear h6; have t5 := (HC.out _ H6.out.right).2.2.1; have z5 := Sat.rc_thaw (t := j * 5 + 1) HF.out.1 HVL.out.1 (by omega) H6.out.right; rw [← Nat.add_assoc] at z5)
      obtain ⟨x1, hx1⟩ : ∃ x1 : RC, x1 = ⟨x.c.rotd a mask, x.vr, .slice A6 128 c6, x.vs, x.vw⟩ := ⟨_, rfl⟩
      have hw1 : x1.c.waits = x.c.waits := by rw [hx1]; show (x.c.rotd a mask).waits = _; unfold Cel.rotd; split <;> rfl
      have h7 := Sat.rc_store HF.out.1 HVL.out.1 HF.out.2 x1 (t := 1) (u := .slice A6 128 c6) (by omega) (by rw [RC.vals, hw1, hx1]; rfl) (H6.out.s2)
      rw [← Nat.add_assoc] at h7
      have hb6 : ∃ g6 o6, A6 = some ⟨g6, o6, none⟩ := by
        have hrc := H6.out.row_cells
        obtain ⟨pa, hpa, -⟩ := hrc.at_ 0 (by rw [b8s_length, HFin.out.2.1]; omega)
        obtain ⟨g6, o6, rfl⟩ : ∃ g o, pa = ⟨g, o, none⟩ := slice_addr hrc hpa (by rw [b8s_length, HFin.out.2.1]; omega)
        exact ⟨g6, o6, hpa⟩
      obtain ⟨g6, o6, rfl⟩ := hb6
      have H7 := Aside.mk h7
      have HX1 := Aside.mk (And.intro hx1 hw1)
      clear t3 t3b H10 H6 t5 z5 h7 hx1 hw1
      generalize World.setCell w6 _ _ = w7 at *
      obtain ⟨hF1, hi1⟩ := setRC_at (x := x1) HF.out.1 hlt
      have HF1 := Aside.mk (And.intro hF1 hi1)
      clear hF1 hi1
      obtain ⟨-, t5, -, -, -⟩ := H7.out.rc_cell HF1.out.1 HVL.out.1 HF1.out.2
      have t5w : x1.vd = .slice (some ⟨g6, o6, none⟩) 128 c6 := by rw [HX1.out.1]
      rw [t5w] at t5
      clear t5w
      obtain ⟨dv, hdv⟩ : ∃ dv, dv = x.c.durable.getD a 0 := ⟨_, rfl⟩
      have t6 := H7.out.s2.row_cell a (.int .u8 dv) (by rw [hdv]; exact rg_get (by rw [HFin.out.2.1]; exact ha))
      have z6 := H7.out.s2.row_thaw a (by rw [b8s_length, HFin.out.2.1]; exact ha)
      have h8 := H7.out.s2.row_set a (by rw [b8s_length, HFin.out.2.1]; exact ha) (.int .u8 (bits .xor .u8 dv mask))
      have e8 : (b8s x.c.durable).set a (.int .u8 (bits .xor .u8 dv mask)) = b8s (xorAt x.c.durable a mask) := by rw [b8s_set, hdv]; rfl
      rw [e8] at h8
      have H8 := Aside.mk h8.drew
      clear h8 e8 hdv H7
      have hia : (a : Int) < (128 : Int) := ha1
      go_wp2
      refine region_R [15] [] (fun _ => True) #[false, false, false, false, false, false, false, false, false, false, false, false, false, false, false, false] (by kernel_rfl) rfl rfl ?_
      refine wpR_rd 0 #[true, false, false, false, false, false, false, false, false, false, false, false, false, false, false, false] rfl onlyN_noPanic (by kernel_rfl) (fun K hK => ?_); (go_simp; try go_bits); refine hK _ ?_; clear hK K
      refine wpR_rd 1 #[true, true, false, false, false, false, false, false, false, false, false, false, false, false, false, false] rfl onlyN_noPanic (by kernel_rfl) (fun K hK => ?_); (go_simp; try go_bits); refine hK _ ?_; clear hK K
      refine wpR_rd 2 #[true, true, true, false, false, false, false, false, false, false, false, false, false, false, false, false] rfl onlyN_noPanic (by kernel_rfl) (fun K hK => ?_); (go_simp; try go_bits); refine hK _ ?_; clear hK K
      refine wpR_rd 3 #[true, true, true, true, false, false, false, false, false, false, false, false, false, false, false, false] rfl onlyN_noPanic (by kernel_rfl) (fun K hK => ?_); (go_simp; try go_bits); refine hK _ ?_; clear hK K
      refine wpR_rd 4 #[true, true, true, true, true, false, false, false, false, false, false, false, false, false, false, false] rfl onlyN_noPanic (by kernel_rfl) (fun K hK => ?_); (go_simp; try go_bits); refine hK _ ?_; clear hK K
      refine wpR_rd 5 #[true, true, true, true, true, true, false, false, false, false, false, false, false, false, false, false] rfl onlyN_noPanic (by kernel_rfl) (fun K hK => ?_); (go_simp; try go_bits); refine hK _ ?_; clear hK K
      refine wpR_rd 6 #[true, true, true, true, true, true, true, false, false, false, false, false, false, false, false, false] rfl onlyN_noPanic (by kernel_rfl) (fun K hK => ?_); (go_simp; try go_bits); refine hK _ ?_; clear hK K
      refine wpR_rd 7 #[true, true, true, true, true, true, true, true, false, false, false, false, false, false, false, false] rfl onlyN_noPanic (by kernel_rfl) (fun K hK => ?_); (go_simp; try go_bits); refine hK _ ?_; clear hK K
      refine wpR_rd 8 #[true, true, true, true, true, true, true, true, true, false, false, false, false, false, false, false] rfl onlyN_noPanic (by kernel_rfl) (fun K hK => ?_); (go_simp; try go_bits); refine hK _ ?_; clear hK K
      refine wpR_rd 9 #[true, true, true, true, true, true, true, true, true, true, false, false, false, false, false, false] rfl onlyN_noPanic (by kernel_rfl) (fun K hK => ?_); (go_simp; try go_bits); refine hK _ ?_; clear hK K
      refine wpR_rd 10 #[true, true, true, true, true, true, true, true, true, true, true, false, false, false, false, false] rfl onlyN_noPanic (by kernel_rfl) (fun K hK => ?_); (go_simp; try go_bits); refine hK _ ?_; clear hK K
      refine wpR_rd 11 #[true, true, true, true, true, true, true, true, true, true, true, true, false, false, false, false] rfl onlyN_noPanic (by kernel_rfl) (fun K hK => ?_); (go_simp; try go_bits); refine hK _ ?_; clear hK K
      refine wpR_rd 12 #[true, true, true, true, true, true, true, true, true, true, true, true, true, false, false, false] rfl onlyN_noPanic (by kernel_rfl) (fun K hK => ?_); (go_simp; try go_bits); refine hK _ ?_; clear hK K
      refine wpR_rd 13 #[true, true, true, true, true, true, true, true, true, true, true, true, true, true, false, false] rfl onlyN_noPanic (by kernel_rfl) (fun K hK => ?_); (go_simp; try go_bits); refine hK _ ?_; clear hK K
      refine wpR_rd 14 #[true, true, true, true, true, true, true, true, true, true, true, true, true, true, true, false] rfl onlyN_noPanic (by kernel_rfl) (fun K hK => ?_); (go_simp; try go_bits); refine hK _ ?_; clear hK K
      refine wpR_eff #[true, true, true, true, true, true, true, true, true, true, true, true, true, true, true, true] (i := 15) rfl (by kernel_rfl) (fun K hK => ?_)
      go_simp; refine hK _ _ ?_; clear hK K
      refine wpR_done (by kernel_rfl) ?_ _
      simp only [OnlyN]
      clear t5 t6 z6
      generalize World.drew (World.setCell w7 _ _) = w8 at *
      obtain ⟨s0, -, -, -, s4⟩ := H8.out.right.rc_cell HF1.out.1 HVL.out.1 HF1.out.2
      rw [HX1.out.2] at s4
      obtain ⟨L1, hL1⟩ : ∃ L1, L1 = ((.slice (some ⟨g6, o6, none⟩) 128 c6 : Value), xorAt x.c.durable a mask) :: L := ⟨_, rfl⟩
      have H9 : Aside (Sat E w8 (HP.rdk y room fuse (.slice (some ⟨g, o, none⟩) n cF) (setRC fs k j x1) L1 * q)) := ⟨by
        have h := H8.out.s2.rdk_imgs_in (z := ((.slice (some ⟨g6, o6, none⟩) 128 c6 : Value), xorAt x.c.durable a mask))
        rw [hL1]; exact h⟩
      have hfr : (x.c.rotd a mask).Fine := Cel.rotd_fine HFin.out a mask
      cases hwt : x.c.waits with
      | true =>
        have hVw : RView (A.set f.name ((f.cs.map (·.c)).set j (x.c.rotd a mask))) (setRC fs k j x1) L1 := by
          have h := HV.out.setRC HF.out.1 HF.out.2 (x' := x1) (L' := L1) (fun z hz => by rw [hL1]; exact List.mem_cons_of_mem _ hz) (by
            rw [hL1, HX1.out.1]
            unfold Cel.rotd
            rw [hwt]
            exact ⟨List.mem_cons_of_mem _ HX.out.1, List.mem_cons_self .., List.mem_cons_of_mem _ HX.out.2.2.1, List.mem_cons_of_mem _ HX.out.2.2.2⟩) (by rw [HX1.out.1]; exact hfr)
          rw [HX1.out.1] at h ⊢
          exact h
        have HVw := Aside.mk hVw
        rw [hwt] at s4
        clear hVw hwt hL1 hfr H8
        go_wp2
        go_ret
        rw [HA.out]
        refine ⟨rfl, Sat.rdisk_close (v := .slice (some ⟨g, o, none⟩) n cF) HVw.out ?_⟩
        have h := H9.out
        rw [HFR.out.1, HFR.out.2] at h
        exact h
      | false =>
        rw [hwt] at s4
        have hvr : x1.vr = x.vr := by rw [HX1.out.1]
        have hmr : (x.vr, x.c.read) ∈ L1 := by rw [hL1]; exact List.mem_cons_of_mem _ HX.out.1
        rw [hvr] at s0
        obtain ⟨IB, ID, hxr, hicr, himr, hcr⟩ := H9.out.rdk_imgs.img hmr
        rw [hxr] at s0
        have H10 : Aside (Sat E (World.alloc w8 (.cells #[] 5)) (HP.row 5 1 (.slice (some ⟨w8.heap.size, 0, none⟩) 0 0) 0 [] * (HP.rdk y room fuse (.slice (some ⟨g, o, none⟩) n cF) (setRC fs k j x1) L1 * q)) ∧ Cells (World.alloc w8 (.cells #[] 5)) IB (b8s x.c.read) ∧ (b8s x.c.read).length = 128) := ⟨((H9.out.row_nil _ 1 _).alloc _).right, hcr.alloc _, by rw [b8s_length]; exact HFin.out.1⟩
        have HM := Aside.mk (And.intro hL1 hwt)
        have s0b : (World.alloc w8 (.cells #[] 5)).cell? ⟨gc, oc + j * 5, none⟩ = some (.slice IB 128 ID) := by
          have := (H10.out.1.right.rc_cell HF1.out.1 HVL.out.1 HF1.out.2).1
          rw [hvr, hxr] at this
          exact this
        have HVR := Aside.mk (And.intro hvr hxr)
        clear H9 H8 hcr hvr hmr hxr hL1 hwt
        go_wp2_with (at_builtin; refine wpList_append_row slB8 rfl rfl (by rfl) (by rfl) H10.out.1 H10.out.2.1 (by rw [H10.out.2.2]) (b8s_one _) (by unfold maxLen; omega) (by omega) (fun v7 w9 h6 => ?_); rw [List.nil_append, Nat.zero_add] at h6; obtain ⟨A7, c7, rfl, hc7, hm7⟩ := h6.row_slice; have H6 := Aside.mk h6; clear h6; have t7 := (H6.out.right.rc_cell HF1.out.1 HVL.out.1 HF1.out.2).1; rw [HVR.out.1, HVR.out.2] at t7; have z7 := Sat.rc_thaw (t := j * 5) HF1.out.1 HVL.out.1 (by show j * 5 < (f.cs.set j x1).length * 5; rw [List.length_set]; omega) H6.out.right)
        obtain ⟨x2, hx2⟩ : ∃ x2 : RC, x2 = ⟨x.c.rotd a mask, .slice A7 128 c7, .slice (some ⟨g6, o6, none⟩) 128 c6, x.vs, x.vw⟩ := ⟨_, rfl⟩
        have h7 := Sat.rc_store HF1.out.1 HVL.out.1 HF1.out.2 x2 (t := 0) (u := .slice A7 128 c7) (by omega) (by rw [RC.vals, RC.vals, HX1.out.1, hx2]; rfl) (H6.out.s2)
        rw [Nat.add_zero, setRC_setRC] at h7
        have hb7 : ∃ g7 o7, A7 = some ⟨g7, o7, none⟩ := by
          have hrc := H6.out.row_cells
          obtain ⟨pa, hpa, -⟩ := hrc.at_ 0 (by rw [b8s_length, HFin.out.1]; omega)
          obtain ⟨g7, o7, rfl⟩ : ∃ g o, pa = ⟨g, o, none⟩ := slice_addr hrc hpa (by rw [b8s_length, HFin.out.1]; omega)
          exact ⟨g7, o7, hpa⟩
        obtain ⟨g7, o7, rfl⟩ := hb7
        have H7 := Aside.mk h7
        have HX2 := Aside.mk hx2
        clear s0 s0b s4 H10 H6 t7 z7 h7 hx2
        generalize World.setCell w9 _ _ = w10 at *
        obtain ⟨hF2, hi2⟩ := setRC_at (x := x2) HF.out.1 hlt
        obtain ⟨t5, -, -, -, -⟩ := H7.out.rc_cell hF2 HVL.out.1 hi2
        have t5w : x2.vr = .slice (some ⟨g7, o7, none⟩) 128 c7 := by rw [HX2.out]
        rw [t5w] at t5
        clear t5w hF2 hi2
        obtain ⟨dv, hdv⟩ : ∃ dv, dv = x.c.read.getD a 0 := ⟨_, rfl⟩
        have t6 := H7.out.s2.row_cell a (.int .u8 dv) (by rw [hdv]; exact rg_get (by rw [HFin.out.1]; exact ha))
        have z6 := H7.out.s2.row_thaw a (by rw [b8s_length, HFin.out.1]; exact ha)
        have h8 := H7.out.s2.row_set a (by rw [b8s_length, HFin.out.1]; exact ha) (.int .u8 (bits .xor .u8 dv mask))
        have e8 : (b8s x.c.read).set a (.int .u8 (bits .xor .u8 dv mask)) = b8s (xorAt x.c.read a mask) := by rw [b8s_set, hdv]; rfl
        rw [e8] at h8
        have H8 := Aside.mk h8.drew
        clear h8 e8 hdv H7
        go_wp2
        refine region_R [15] [] (fun _ => True) #[false, false, false, false, false, false, false, false, false, false, false, false, false, false, false, false] (by kernel_rfl) rfl rfl ?_
        refine wpR_rd 0 #[true, false, false, false, false, false, false, false, false, false, false, false, false, false, false, false] rfl onlyN_noPanic (by kernel_rfl) (fun K hK => ?_); (go_simp; try go_bits); refine hK _ ?_; clear hK K
        refine wpR_rd 1 #[true, true, false, false, false, false, false, false, false, false, false, false, false, false, false, false] rfl onlyN_noPanic (by kernel_rfl) (fun K hK => ?_); (go_simp; try go_bits); refine hK _ ?_; clear hK K
        refine wpR_rd 2 #[true, true, true, false, false, false, false, false, false, false, false, false, false, false, false, false] rfl onlyN_noPanic (by kernel_rfl) (fun K hK => ?_); (go_simp; try go_bits); refine hK _ ?_; clear hK K
        refine wpR_rd 3 #[true, true, true, true, false, false, false, false, false, false, false, false, false, false, false, false] rfl onlyN_noPanic (by kernel_rfl) (fun K hK => ?_); (go_simp; try go_bits); refine hK _ ?_; clear hK K
        refine wpR_rd 4 #[true, true, true, true, true, false, false, false, false, false, false, false, false, false, false, false] rfl onlyN_noPanic (by kernel_rfl) (fun K hK => ?_); (go_simp; try go_bits); refine hK _ ?_; clear hK K
        refine wpR_rd 5 #[true, true, true, true, true, true, false, false, false, false, false, false, false, false, false, false] rfl onlyN_noPanic (by kernel_rfl) (fun K hK => ?_); (go_simp; try go_bits); refine hK _ ?_; clear hK K
        refine wpR_rd 6 #[true, true, true, true, true, true, true, false, false, false, false, false, false, false, false, false] rfl onlyN_noPanic (by kernel_rfl) (fun K hK => ?_); (go_simp; try go_bits); refine hK _ ?_; clear hK K
        refine wpR_rd 7 #[true, true, true, true, true, true, true, true, false, false, false, false, false, false, false, false] rfl onlyN_noPanic (by kernel_rfl) (fun K hK => ?_); (go_simp; try go_bits); refine hK _ ?_; clear hK K
        refine wpR_rd 8 #[true, true, true, true, true, true, true, true, true, false, false, false, false, false, false, false] rfl onlyN_noPanic (by kernel_rfl) (fun K hK => ?_); (go_simp; try go_bits); refine hK _ ?_; clear hK K
        refine wpR_rd 9 #[true, true, true, true, true, true, true, true, true, true, false, false, false, false, false, false] rfl onlyN_noPanic (by kernel_rfl) (fun K hK => ?_); (go_simp; try go_bits); refine hK _ ?_; clear hK K
        refine wpR_rd 10 #[true, true, true, true, true, true, true, true, true, true, true, false, false, false, false, false] rfl onlyN_noPanic (by kernel_rfl) (fun K hK => ?_); (go_simp; try go_bits); refine hK _ ?_; clear hK K
        refine wpR_rd 11 #[true, true, true, true, true, true, true, true, true, true, true, true, false, false, false, false] rfl onlyN_noPanic (by kernel_rfl) (fun K hK => ?_); (go_simp; try go_bits); refine hK _ ?_; clear hK K
        refine wpR_rd 12 #[true, true, true, true, true, true, true, true, true, true, true, true, true, false, false, false] rfl onlyN_noPanic (by kernel_rfl) (fun K hK => ?_); (go_simp; try go_bits); refine hK _ ?_; clear hK K
        refine wpR_rd 13 #[true, true, true, true, true, true, true, true, true, true, true, true, true, true, false, false] rfl onlyN_noPanic (by kernel_rfl) (fun K hK => ?_); (go_simp; try go_bits); refine hK _ ?_; clear hK K
        refine wpR_rd 14 #[true, true, true, true, true, true, true, true, true, true, true, true, true, true, true, false] rfl onlyN_noPanic (by kernel_rfl) (fun K hK => ?_); (go_simp; try go_bits); refine hK _ ?_; clear hK K
        refine wpR_eff #[true, true, true, true, true, true, true, true, true, true, true, true, true, true, true, true] (i := 15) rfl (by kernel_rfl) (fun K hK => ?_)
        go_simp; refine hK _ _ ?_; clear hK K
        refine wpR_done (by kernel_rfl) ?_ _
        simp only [OnlyN]
        clear t5 t6 z6
        generalize World.drew (World.setCell w10 _ _) = w11 at *
        obtain ⟨L2, hL2⟩ : ∃ L2, L2 = ((.slice (some ⟨g7, o7, none⟩) 128 c7 : Value), xorAt x.c.read a mask) :: L1 := ⟨_, rfl⟩
        have h9 : Sat E w11 (HP.rdk y room fuse (.slice (some ⟨g, o, none⟩) n cF) (setRC fs k j x2) L2 * q) := by
          have h := H8.out.s2.rdk_imgs_in (z := ((.slice (some ⟨g7, o7, none⟩) 128 c7 : Value), xorAt x.c.read a mask))
          rw [hL2]; exact h
        have hVw : RView (A.set f.name ((f.cs.map (·.c)).set j (x.c.rotd a mask))) (setRC fs k j x2) L2 := by
          have h := HV.out.setRC HF.out.1 HF.out.2 (x' := x2) (L' := L2) (fun z hz => by rw [hL2, HM.out.1]; exact List.mem_cons_of_mem _ (List.mem_cons_of_mem _ hz)) (by
            rw [hL2, HM.out.1, HX2.out]
            unfold Cel.rotd
            rw [HM.out.2]
            exact ⟨List.mem_cons_self .., List.mem_cons_of_mem _ (List.mem_cons_self ..), List.mem_cons_of_mem _ (List.mem_cons_of_mem _ HX.out.2.2.1), List.mem_cons_of_mem _ (List.mem_cons_of_mem _ HX.out.2.2.2)⟩) (by rw [HX2.out]; exact hfr)
          rw [HX2.out] at h ⊢
          exact h
        have HVw := Aside.mk hVw
        have H9 := Aside.mk h9
        clear hVw hfr H8 h9 hL2
        go_wp2
        go_ret
        rw [HA.out]
        refine ⟨rfl, Sat.rdisk_close (v := .slice (some ⟨g, o, none⟩) n cF) HVw.out ?_⟩
        have h := H9.out
        rw [HFR.out.1, HFR.out.2] at h
        exact h
  · have HA : Aside (AR = (30, A)) := ⟨by rw [hAR]; unfold Dk.rot; rw [h6]⟩
    have HV := Aside.mk hv
    clear h6 hv hAR
    by_cases hi : i < 0
    · clear h7 hR
      go_enter Tryz.func80, Tryz.ntmps80
      go_wp2
      go_ret
      rw [HA.out]
      exact ⟨rfl, Sat.rdisk_close HV.out HW.out⟩
    · have hRi : R ≤ i := by rw [hR]; omega
      clear h7 hR
      go_enter Tryz.func80, Tryz.ntmps80
      go_wp2_with fail
      refine HE.out.mono ?_
      rintro e w1 ⟨rfl, h1⟩
      have HS := Aside.mk h1
      clear h1
      go_wp2
      go_ret
      rw [HA.out]
      exact ⟨rfl, Sat.rdisk_close HV.out HS.out⟩
end Go.Proofs.YtnpinegpajbkeaaGreatDoor
