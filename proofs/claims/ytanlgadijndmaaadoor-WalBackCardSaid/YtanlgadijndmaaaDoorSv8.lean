/- Texts of one claim, one behind the other: LsP, LayKe, LaySd, LaySr, List, Told, SavP, SavQ, SavR, SavS, SavT, AnchV, AnchK, Ref2, AnchR, Ref3E, CopP, FileQ, WpA. -/
import Derived.Test.YtanlgadijndmaaaDoorSv7
import Derived.Shelf.SlIter.Nil
import Derived.Test.YtanlgadijndmaaaDoorProg
import Derived.Shelf.SortM.Plain
import Derived.Shelf.SortM.SortNone
import Derived.Laws.StructEq
/- A disk's names: the map as the library's contracts of iterators want it; the names, sorted. -/
namespace Go.Proofs.YtanlgadijndmaaaDoor
open Go.RowKit Go.Maps Go.Sort Go.Shelf HP
set_option linter.unusedSimpArgs false
set_option linter.unusedVariables false

/-- A new block of a world that has grown. -/
theorem Sat.fresh {E : Env} {w w' : World} {p : HP} {g : Nat} {o : Obj} (h : Sat E w p) (hb : Below w.heap.size w w') (hg : w.heap.size ≤ g) (ho : w'.heap[g]? = some o) : Sat E w' (HP.pt g o * p) := by
  obtain ⟨e, k, hk, hp⟩ := h.below hb
  obtain ⟨e1, k, hk1, hp⟩ := h
  have hn : ∀ b, w.heap.size ≤ b → k b = none := fun b hb => by
    cases hks : k b with
    | none => rfl
    | some u => have := (Array.getElem?_eq_some_iff.1 (hk1 _ _ hks)).1; omega
  refine ⟨e, fun b => if b = g then some o else k b, fun b u hbu => ?_, fun b => if b = g then some o else none, k, fun b => ?_, fun b => ?_, fun b => rfl, hp⟩
  · by_cases hbs : b = g
    · subst hbs; simp at hbu; subst hbu; exact ho
    · simp [hbs] at hbu
      have h1 := hk1 b u hbu
      rw [hb.block b (Array.getElem?_eq_some_iff.1 h1).1]; exact h1
  · by_cases hbs : b = g
    · subst hbs; exact .inr (hn _ hg)
    · simp [hbs]
  · by_cases hbs : b = g
    · subst hbs; simp
    · simp [hbs]
/-- What a contract of the library hands back: a row of one's own. -/
theorem Sat.fresh_row {E : Env} {w w' : World} {p : HP} {e : TypeId} {size n : Nat} {v : Value} {xs : List Value} {base : Nat} (h : Sat E w p) (hb : Below w.heap.size w w') (hbase : w.heap.size ≤ base) (hr : w'.ownsRow base e size v n xs) : Sat E w' (HP.row e size v n xs * p) := by
  obtain ⟨hl, h1 | ⟨g, cap, cur, rfl, hg, hh, hnc, hcm, hcs, ht⟩⟩ := hr
  · obtain ⟨rfl, rfl⟩ := h1
    rw [Nat.zero_mul] at hl
    obtain rfl := List.eq_nil_of_length_eq_zero hl
    exact (h.below hb).row_nil e size none
  · have h2 := (h.fresh hb (Nat.le_trans hbase hg) hh).row_mk (off := 0) (size := size) (n := n) (cs := xs) hnc hcm (by rw [hcs]; simp) (by simpa using ht)
    rw [Nat.zero_mul] at h2
    exact h2

abbrev RN : Value → Option (DataW Unit × List MemPlace) := fun _ => some (.nil, [])
theorem names_le {A : Dk} (h : A.Fine) {s : ByteArray} {l : List Cel} (hm : (s, l) ∈ A.files) : s.size ≤ maxLen := by
  have := (h.named _ hm).1
  simp [namedB] at this
  unfold maxLen
  omega
theorem len_sizeF : ∀ {l : List (ByteArray × List Cel)}, (∀ x ∈ l, x.2 ≠ []) → (l.length : Int) ≤ sizeF l
  | [], _ => by simp [sizeF]
  | x :: l, h => by
    have := len_sizeF (l := l) fun y hy => h y (List.mem_cons_of_mem _ hy)
    have h1 : 1 ≤ x.2.length := by
      have := h x (List.mem_cons_self ..)
      cases hx : x.2 with
      | nil => exact absurd hx this
      | cons => simp
    unfold sizeF at this ⊢
    rw [List.map_cons, List.sum_cons, List.length_cons]
    push_cast at this ⊢
    omega
theorem files_le {A : Dk} (h : A.Fine) : A.files.length ≤ 100000 := by
  have := len_sizeF (l := A.files) fun x hx => (h.named x hx).2
  have := h.fits
  have := h.room
  omega
set_option maxRecDepth 100000 in
theorem own_map {E : Env} {w : World} {q : HP} {d m : Nat} {A : Dk} {room fuse : Int} {es : Array MapEntry} {clock : Nat} {fs : List Fil} (hv : View A es clock fs) (h : Sat E w (HP.dk d room fuse m es clock fs * q)) :
    ∃ D : DataW Unit, w.ownsMap Tryd.prog 9 RN m es.size D ∧ (strKeys D).Perm (A.files.map fun x => x.1.data.toList) ∧ Maps.size D = A.files.length := by
  have hb : w.heap[m]? = some (.map es clock) := by
    unfold HP.dk at h
    exact Sat.get (h.perm (by ac_rfl : _ = HP.pt m (.map es clock) * (HP.dsk d room fuse m * HP.all (fs.map HP.fil) * q)))
  obtain ⟨hk, hes, hn, hbn, hbd⟩ := hv.map
  have hpf := files_perm hv
  have hlen : es.size = fs.length := by
    have := congrArg List.length hes
    simpa using this
  have hlf : fs.length = A.files.length := by simpa using hpf.length_eq
  have hky : ∀ x ∈ es.toList, ∃ f ∈ fs, x.key = .string f.name := fun x hx => by
    have : (x.key, x.val) ∈ es.toList.map fun x => (x.key, x.val) := List.mem_map.2 ⟨x, hx, rfl⟩
    rw [hes] at this
    obtain ⟨f, hf, he⟩ := List.mem_map.1 this
    exact ⟨f, hf, (Prod.mk.inj he).1.symm⟩
  have hnm : ∀ f ∈ fs, f.name.size ≤ maxLen := fun f hf => by
    have : (f.name, f.cs) ∈ A.files := hpf.mem_iff.1 (List.mem_map.2 ⟨f, hf, rfl⟩)
    exact names_le hv.fine this
  have hkeys : es.toList.map (·.key) = fs.map fun f => Value.string f.name := by
    have := congrArg (List.map Prod.fst) hes
    rw [List.map_map, List.map_map] at this
    exact this
  have hrd : ∀ x ∈ es.toList, ∀ f ∈ fs, x.key = .string f.name → WideElems.rd Tryd.prog 9 RN x = some (.string f.name.data.toList, .nil) := fun x hx f hf he => by
    unfold WideElems.rd
    rw [he, WideMaps.keyOf_string_mk Tryd.underlying9 (hnm f hf)]
    rfl
  have hF : WideElems.Fit Tryd.prog 9 RN es clock := by
    refine ⟨by rw [hlen, hlf]; have := files_le hv.fine; unfold maxLen; omega, (MapKept.stamped_iff es clock).2 ⟨hbn, hbd, ?_⟩, fun x hx => ?_⟩
    · have h1 : (es.toList.map (·.key)).Nodup := by
        rw [hkeys]
        unfold List.Nodup at hn ⊢
        rw [List.pairwise_map] at hn ⊢
        exact hn.imp fun {a b} h1 h2 => h1 (Value.string.inj h2)
      exact List.pairwise_map.1 h1
    · obtain ⟨f, hf, he⟩ := hky x hx
      exact ⟨_, hrd x hx f hf he⟩
  refine ⟨_, ⟨es, clock, hb, hF, Nat.le_refl _, rfl⟩, ?_, ?_⟩
  · have hp := WideShapes.sorted_perm (es.toList.map (WideElems.rg Tryd.prog 9 RN))
    have h1 : (es.toList.map (WideElems.rg Tryd.prog 9 RN)).map (fun p => Go.strOf p.1) = fs.map fun f => f.name.data.toList := by
      rw [List.map_map]
      have : ∀ (l : List MapEntry), (∀ x ∈ l, x ∈ es.toList) → ∀ (gs : List Fil), (∀ f ∈ gs, f ∈ fs) → l.map (·.key) = gs.map (fun f => Value.string f.name) → l.map ((fun p => Go.strOf p.1) ∘ WideElems.rg Tryd.prog 9 RN) = gs.map fun f => f.name.data.toList := by
        intro l
        induction l with
        | nil => intro _ gs _ h; cases gs with
          | nil => rfl
          | cons => simp at h
        | cons x l ih =>
          intro hl gs hg h
          cases gs with
          | nil => simp at h
          | cons f gs =>
            simp only [List.map_cons, List.cons.injEq] at h
            rw [List.map_cons, List.map_cons, ih (fun y hy => hl y (List.mem_cons_of_mem _ hy)) gs (fun y hy => hg y (List.mem_cons_of_mem _ hy)) h.2]
            congr 1
            have := hrd x (hl x (List.mem_cons_self ..)) f (hg f (List.mem_cons_self ..)) h.1
            show Go.strOf (WideElems.rg Tryd.prog 9 RN x).1 = _
            rw [WideElems.rg_of this]
            rfl
      exact this _ (fun _ h => h) fs (fun _ h => h) hkeys
    show ((List.foldr DataW.insert [] (es.toList.map (WideElems.rg Tryd.prog 9 RN))).map fun p => Go.strOf p.1).Perm _
    have hp2 := hp.map (fun p : Lit × DataW Unit => Go.strOf p.1)
    rw [h1] at hp2
    refine List.Perm.trans hp2 ?_
    have := hpf.map fun x => x.1.data.toList
    rw [List.map_map] at this
    exact this
  · rw [Maps.size_eq, (WideShapes.sorted_perm _).length_eq, List.length_map, Array.length_toList, hlen, hlf]
theorem names_sorted {A : Dk} (h : A.Fine) {ss : List (List UInt8)} (hp : ss.Perm (A.files.map fun x => x.1.data.toList)) : ss.mergeSort (fun x y => decide (x ≤ y)) = A.files.map fun x => x.1.data.toList := by
  have e := mergeSort_of_perm hp
  show ss.mergeSort leB = _
  rw [e]
  refine List.mergeSort_of_pairwise ?_
  rw [List.pairwise_map]
  refine h.sorted.imp fun {x y} hxy => ?_
  unfold ltN at hxy
  have key : ∀ (x y : List UInt8), Op.bytesLess x y = decide (x < y) := by
    intro x
    induction x with
    | nil => intro y; cases y <;> simp [Op.bytesLess]
    | cons a x ih =>
      intro y
      cases y with
      | nil => simp [Op.bytesLess]
      | cons b y =>
        simp only [Op.bytesLess, ih y, List.cons_lt_cons_iff]
        by_cases h : a < b <;> by_cases h' : a = b <;> simp [h, h']
  rw [key, decide_eq_true_eq, ByteArray.toList_eq, ByteArray.toList_eq] at hxy
  exact decide_eq_true (List.le_of_lt hxy)
end Go.Proofs.YtanlgadijndmaaaDoor
/- A library function laid at this program (printed by the kit's own tool). -/
namespace Go.Proofs.YtanlgadijndmaaaDoor
open Go.Shelf
set_option linter.unusedSimpArgs false
set_option linter.unusedVariables false

def layKe_ren : Go.Shelf.Ren := ⟨fun | 7 => 122 | 10 => 152 | n => n, fun | 23 => 36 | 26 => 9 | 3 => 120 | 28 => 190 | 0 => 0 | 27 => 189 | 33 => 179 | 4 => 4 | n => n, fun | n => n⟩
theorem layKe : Go.Proofs.SlLaysZ.n7 Tryd.prog layKe_ren := {
  mixed := by kernel_rfl
  f7 := ⟨Tryd.f122.name, by decide, Tryd.func122.trans (congrArg some (by kernel_rfl))⟩
  f10 := ⟨Tryd.f152.name, by decide, Tryd.func152.trans (congrArg some (by kernel_rfl))⟩
  t0 := Tryd.underlying0
  a0 := Tryd.isAgg0
  z0 := Tryd.sizeOf0
  v0 := Tryd.zeroValue0
  t4 := Tryd.underlying4
  a4 := Tryd.isAgg4
  z4 := Tryd.sizeOf4
  v4 := Tryd.zeroValue4
  t23 := Tryd.underlying36
  a23 := Tryd.isAgg36
  z23 := Tryd.sizeOf36
  v23 := Tryd.zeroValue36
  t26 := Tryd.underlying9
  a26 := Tryd.isAgg9
  z26 := Tryd.sizeOf9
  v26 := Tryd.zeroValue9
  t27 := Tryd.underlying189
  a27 := Tryd.isAgg189
  z27 := Tryd.sizeOf189
  v27 := Tryd.zeroValue189
  t28 := Tryd.underlying190
  a28 := Tryd.isAgg190
  z28 := Tryd.sizeOf190
  v28 := Tryd.zeroValue190
  t33 := Tryd.underlying179
  a33 := Tryd.isAgg179
  z33 := Tryd.sizeOf179
  v33 := Tryd.zeroValue179 }
end Go.Proofs.YtanlgadijndmaaaDoor
/- A library function laid at this program (printed by the kit's own tool). -/
namespace Go.Proofs.YtanlgadijndmaaaDoor
open Go.Shelf
set_option linter.unusedSimpArgs false
set_option linter.unusedVariables false

def laySd_ren : Go.Shelf.Ren := ⟨fun | 6 => 121 | 8 => 150 | 9 => 151 | 11 => 174 | 13 => 111 | 12 => 175 | 23 => 145 | 24 => 146 | 14 => 187 | 15 => 188 | 16 => 189 | 17 => 190 | 18 => 191 | 19 => 192 | 20 => 193 | 21 => 194 | 22 => 195 | 25 => 200 | 26 => 165 | 27 => 166 | 28 => 201 | 29 => 202 | 30 => 112 | 31 => 203 | n => n, fun | 26 => 9 | 28 => 190 | 24 => 68 | 0 => 0 | 3 => 3 | 37 => 60 | 48 => 210 | 50 => 152 | 4 => 4 | 40 => 203 | 39 => 202 | 45 => 207 | 5 => 5 | 9 => 9 | 51 => 227 | 55 => 231 | 57 => 245 | 58 => 246 | 33 => 179 | n => n, fun | n => n⟩
theorem laySd : Go.Proofs.SlLaysZ.n6 Tryd.prog laySd_ren := {
  mixed := by kernel_rfl
  f6 := ⟨Tryd.f121.name, by decide, Tryd.func121.trans (congrArg some (by kernel_rfl))⟩
  f8 := ⟨Tryd.f150.name, by decide, Tryd.func150.trans (congrArg some (by kernel_rfl))⟩
  f11 := ⟨Tryd.f174.name, by decide, Tryd.func174.trans (congrArg some (by kernel_rfl))⟩
  t0 := Tryd.underlying0
  a0 := Tryd.isAgg0
  z0 := Tryd.sizeOf0
  v0 := Tryd.zeroValue0
  t24 := Tryd.underlying68
  a24 := Tryd.isAgg68
  z24 := Tryd.sizeOf68
  v24 := Tryd.zeroValue68
  t26 := Tryd.underlying9
  a26 := Tryd.isAgg9
  z26 := Tryd.sizeOf9
  v26 := Tryd.zeroValue9
  t28 := Tryd.underlying190
  a28 := Tryd.isAgg190
  z28 := Tryd.sizeOf190
  v28 := Tryd.zeroValue190
  i26 := by kernel_rfl }
end Go.Proofs.YtanlgadijndmaaaDoor
/- A library function laid at this program (printed by the kit's own tool). -/
namespace Go.Proofs.YtanlgadijndmaaaDoor
open Go.Shelf
set_option linter.unusedSimpArgs false
set_option linter.unusedVariables false

def laySr_ren : Go.Shelf.Ren := ⟨fun | 6 => 151 | 8 => 111 | 9 => 175 | 19 => 145 | 20 => 146 | 21 => 187 | 22 => 188 | 23 => 189 | 24 => 190 | 25 => 191 | 26 => 192 | 27 => 193 | 28 => 194 | 29 => 195 | 36 => 200 | 31 => 165 | 32 => 166 | 37 => 201 | 38 => 202 | 39 => 112 | 41 => 203 | n => n, fun | 27 => 68 | 29 => 9 | 3 => 3 | 32 => 60 | 26 => 68 | 0 => 0 | 44 => 210 | 46 => 152 | 4 => 4 | 36 => 203 | 35 => 202 | 41 => 207 | 5 => 5 | 9 => 9 | 53 => 227 | 57 => 231 | 63 => 245 | 64 => 246 | n => n, fun | n => n⟩
theorem laySr : Go.Proofs.SlLaysM.n6 Tryd.prog laySr_ren := {
  mixed := by kernel_rfl
  f6 := ⟨Tryd.f151.name, by decide, Tryd.func151.trans (congrArg some (by kernel_rfl))⟩
  f8 := Tryd.func111.trans (congrArg some (by kernel_rfl))
  f9 := ⟨Tryd.f175.name, by decide, Tryd.func175.trans (congrArg some (by kernel_rfl))⟩
  f19 := Tryd.func145.trans (congrArg some (by kernel_rfl))
  f20 := Tryd.func146.trans (congrArg some (by kernel_rfl))
  f21 := ⟨Tryd.f187.name, by decide, Tryd.func187.trans (congrArg some (by kernel_rfl))⟩
  f22 := ⟨Tryd.f188.name, by decide, Tryd.func188.trans (congrArg some (by kernel_rfl))⟩
  f23 := ⟨Tryd.f189.name, by decide, Tryd.func189.trans (congrArg some (by kernel_rfl))⟩
  f24 := ⟨Tryd.f190.name, by decide, Tryd.func190.trans (congrArg some (by kernel_rfl))⟩
  f25 := ⟨Tryd.f191.name, by decide, Tryd.func191.trans (congrArg some (by kernel_rfl))⟩
  f26 := ⟨Tryd.f192.name, by decide, Tryd.func192.trans (congrArg some (by kernel_rfl))⟩
  f27 := ⟨Tryd.f193.name, by decide, Tryd.func193.trans (congrArg some (by kernel_rfl))⟩
  f28 := ⟨Tryd.f194.name, by decide, Tryd.func194.trans (congrArg some (by kernel_rfl))⟩
  f29 := ⟨Tryd.f195.name, by decide, Tryd.func195.trans (congrArg some (by kernel_rfl))⟩
  f31 := Tryd.func165.trans (congrArg some (by kernel_rfl))
  f32 := Tryd.func166.trans (congrArg some (by kernel_rfl))
  f36 := ⟨Tryd.f200.name, by decide, Tryd.func200.trans (congrArg some (by kernel_rfl))⟩
  f37 := ⟨Tryd.f201.name, by decide, Tryd.func201.trans (congrArg some (by kernel_rfl))⟩
  f38 := ⟨Tryd.f202.name, by decide, Tryd.func202.trans (congrArg some (by kernel_rfl))⟩
  f39 := ⟨Tryd.f112.name, by decide, Tryd.func112.trans (congrArg some (by kernel_rfl))⟩
  f41 := ⟨Tryd.f203.name, by decide, Tryd.func203.trans (congrArg some (by kernel_rfl))⟩
  t0 := Tryd.underlying0
  a0 := Tryd.isAgg0
  z0 := Tryd.sizeOf0
  v0 := Tryd.zeroValue0
  t3 := Tryd.underlying3
  a3 := Tryd.isAgg3
  z3 := Tryd.sizeOf3
  v3 := Tryd.zeroValue3
  t4 := Tryd.underlying4
  a4 := Tryd.isAgg4
  z4 := Tryd.sizeOf4
  v4 := Tryd.zeroValue4
  t5 := Tryd.underlying5
  a5 := Tryd.isAgg5
  z5 := Tryd.sizeOf5
  v5 := Tryd.zeroValue5
  t9 := Tryd.underlying9
  a9 := Tryd.isAgg9
  z9 := Tryd.sizeOf9
  v9 := Tryd.zeroValue9
  t26 := Tryd.underlying68
  a26 := Tryd.isAgg68
  z26 := Tryd.sizeOf68
  v26 := Tryd.zeroValue68
  t27 := Tryd.underlying68
  a27 := Tryd.isAgg68
  z27 := Tryd.sizeOf68
  v27 := Tryd.zeroValue68
  t29 := Tryd.underlying9
  a29 := Tryd.isAgg9
  z29 := Tryd.sizeOf9
  v29 := Tryd.zeroValue9
  t32 := Tryd.underlying60
  a32 := Tryd.isAgg60
  z32 := Tryd.sizeOf60
  v32 := Tryd.zeroValue60
  t35 := Tryd.underlying202
  a35 := Tryd.isAgg202
  z35 := Tryd.sizeOf202
  v35 := Tryd.zeroValue202
  t36 := Tryd.underlying203
  a36 := Tryd.isAgg203
  z36 := Tryd.sizeOf203
  v36 := Tryd.zeroValue203
  t41 := Tryd.underlying207
  a41 := Tryd.isAgg207
  z41 := Tryd.sizeOf207
  v41 := Tryd.zeroValue207
  t44 := Tryd.underlying210
  a44 := Tryd.isAgg210
  z44 := Tryd.sizeOf210
  v44 := Tryd.zeroValue210
  t46 := Tryd.underlying152
  a46 := Tryd.isAgg152
  z46 := Tryd.sizeOf152
  v46 := Tryd.zeroValue152
  t53 := Tryd.underlying227
  a53 := Tryd.isAgg227
  z53 := Tryd.sizeOf227
  v53 := Tryd.zeroValue227
  t57 := Tryd.underlying231
  a57 := Tryd.isAgg231
  z57 := Tryd.sizeOf231
  v57 := Tryd.zeroValue231
  t63 := Tryd.underlying245
  a63 := Tryd.isAgg245
  z63 := Tryd.sizeOf245
  v63 := Tryd.zeroValue245
  t64 := Tryd.underlying246
  a64 := Tryd.isAgg246
  z64 := Tryd.sizeOf246
  v64 := Tryd.zeroValue246 }
end Go.Proofs.YtanlgadijndmaaaDoor
/- (*disk.Disk).List: the names, sorted. -/
namespace Go.Proofs.YtanlgadijndmaaaDoor
open Go.RowKit Go.Maps Go.Sort Go.Shelf HP
set_option linter.unusedSimpArgs false
set_option linter.unusedVariables false

def namesV (A : Dk) : List Value := A.files.map fun x => Value.string x.1
theorem lsSorts (m : Nat) : AnyZ.SortsIn Tryd.prog laySd_ren Fence.wide m :=
  ⟨fun blk off cap ss W hH hblk hsz => callsIn_wide.2 (AnyM.slices_Sort_string laySr blk off cap ss W hH hblk hsz),
   fun p cap W => callsIn_wide.2 (AnyM.slices_Sort_string_none laySr p cap W)⟩
set_option maxHeartbeats 2000000 in
set_option maxRecDepth 100000 in
theorem disk_list (E : Env) (q : HP) (d : Nat) (A : Dk) (w : World) (hw : Sat E w (HP.disk d A * q)) :
    Calls Tryd.prog 77 #[.pointer (some ⟨d, 0, none⟩)] w fun e w' => ∃ v, e = .returned v ∧ Sat E w' (HP.row 9 1 v A.files.length (namesV A) * (HP.disk d A * q)) := by
  obtain ⟨m, es, clock, fs, hv, hd⟩ := hw.disk_open
  have hd0 := hd
  clear hw
  unfold HP.dk HP.dsk at hd0
  have c1 := (hd0.perm (HP.mul_assoc _ _ _)).cell 1
  simp only [List.getElem?_toArray, List.getElem?_cons_zero, List.getElem?_cons_succ] at c1
  have HD := Aside.mk hd
  have HV := Aside.mk hv
  clear hd0 hd hv
  go_enter Tryd.func77, Tryd.ntmps77
  go_wp2_with fail
  refine (disk_none E _ d _ _ _ _ (by have h := HD.out; unfold HP.dk at h; exact h.perm (HP.mul_assoc _ _ _))).mono ?_
  rintro e w' ⟨rfl, hw'⟩; subst w'
  obtain ⟨D0, hown, hss, hsz⟩ := own_map HV.out HD.out
  have hle : Maps.size D0 ≤ 100000 := by rw [hsz]; exact files_le HV.out.fine
  have hbl := hown.lt
  have hseq : SeqGives Fence.wide 2 Tryd.prog 152 #[.pointer (some ⟨w.heap.size, 0, none⟩)] encStr (fun ss => ss.Perm (strKeys D0)) (Maps.size D0) (w.alloc (.cells #[.map (some m)] 36)) :=
    AnyZ.keys_gives (ρ := layKe_ren) { layKe with } Fence.wide _ trivial rfl (by omega) w.heap.size m es.size D0 _ (by simp) (by simp) (by
      obtain ⟨es, clock, hb, Ft, hs, hD⟩ := hown
      exact ⟨es, clock, (RowKit.Below.heap_alloc _ _ m hbl).trans hb, Ft, hs, hD⟩)
  have cK : ∀ mb W, Calls Tryd.prog 122 #[.map mb] W fun e w' => e = .returned (.func (.func 152) #[] #[.pointer (some ⟨W.heap.size, 0, none⟩)]) ∧ w' = W.alloc (.cells #[.map mb] 36) := fun mb W => (callsIn_wide (n := 5)).1 (AnyZ.keys_in layKe Fence.wide 5 trivial rfl mb W)
  have cS0 := AnyZ.sorted_in laySd Fence.wide 5 trivial trivial trivial trivial rfl (by omega) (lsSorts _) (enters_of Tryd.func151 (by kernel_rfl) rfl) 152 #[.pointer (some ⟨w.heap.size, 0, none⟩)] trivial (enters_of Tryd.func152 (by kernel_rfl) rfl) _ _ (by unfold maxLen; omega) (by omega) _ hseq
  have cS : Calls Tryd.prog 121 #[.func (.func 152) #[] #[.pointer (some ⟨w.heap.size, 0, none⟩)]] (w.alloc (.cells #[.map (some m)] 36)) _ := (callsIn_wide (n := 5)).1 cS0
  have CS := Aside.mk cS
  have CK := Aside.mk (cK (some m) w)
  have HSS := Aside.mk hss
  clear cS0 cS cK hseq hown hss hsz hle hbl
  go_wp2_with fail
  refine CK.out.mono ?_
  rintro e w1 ⟨rfl, rfl⟩
  go_wp2_with fail
  refine CS.out.mono ?_
  rintro e w2 ⟨v, ss, rfl, hS, hrow, -, hbel⟩
  go_wp2
  go_ret
  refine ⟨v, rfl, ?_⟩
  have hp := hS.trans HSS.out
  have h3 : Sat E w2 (HP.row 9 1 v ss.length ((ss.mergeSort fun x y => decide (x ≤ y)).map encStr) * (HP.dk d A.room A.fuse m es clock fs * q)) := (HD.out.alloc (.cells #[.map (some m)] 36)).right.fresh_row hbel (Nat.le_refl _) hrow
  rw [names_sorted HV.out.fine hp, show ss.length = A.files.length by have := hp.length_eq; simpa using this] at h3
  have e1 : (A.files.map fun x => x.1.data.toList).map encStr = namesV A := by
    rw [List.map_map]; rfl
  rw [e1] at h3
  exact Sat.s2 (Sat.disk_close HV.out h3.s2)
end Go.Proofs.YtanlgadijndmaaaDoor
/- dryrotplain.Told: whether all extents that a disk reads otherwise than another one are no extents any more. -/
namespace Go.Proofs.YtanlgadijndmaaaDoor
open Go.RowKit HP
set_option linter.unusedSimpArgs false
set_option linter.unusedVariables false

/-- What a disk reads at a place. -/
def readO (A : Dk) (f : ByteArray) (i : Int) : List Int := match A.cel f i with | some c => c.read | none => []
def toldAt (A B : Dk) (f : ByteArray) (i : Nat) : Bool := (openI (readO A f i) f i).isNone || decide (readO A f i = readO B f i)
def toldF (A B : Dk) (f : ByteArray) (n : Nat) : Bool := (List.range n).all (toldAt A B f)
def toldB (A B : Dk) : Bool := A.files.all fun x => toldF A B x.1 x.2.length
/-- All that a disk reads are bytes. -/
def Dk.RByt (A : Dk) : Prop := ∀ f i c, A.cel f i = some c → Bytes c.read
theorem toldB_true {A B : Dk} (h : ∀ j < A.files.length, ∀ x, A.files[j]? = some x → toldF A B x.1 x.2.length = true) : toldB A B = true := by
  unfold toldB
  rw [List.all_eq_true]
  intro x hx
  obtain ⟨j, hj⟩ := List.getElem?_of_mem hx
  exact h j (List.getElem?_eq_some_iff.1 hj).1 x hj
theorem toldF_true {A B : Dk} {f : ByteArray} {n : Nat} (h : ∀ i < n, toldAt A B f i = true) : toldF A B f n = true := by
  unfold toldF
  rw [List.all_eq_true]
  intro i hi
  exact h i (List.mem_range.1 hi)
theorem toldB_false {A B : Dk} {j i : Nat} {x : ByteArray × List Cel} (hx : A.files[j]? = some x) (hi : i < x.2.length) (h : toldAt A B x.1 i = false) : toldB A B = false := by
  unfold toldB
  rw [List.all_eq_false]
  refine ⟨x, List.mem_of_getElem? hx, ?_⟩
  unfold toldF
  rw [Bool.not_eq_true, List.all_eq_false]
  exact ⟨i, List.mem_range.2 hi, by rw [h]; decide⟩
set_option maxHeartbeats 4000000 in
set_option maxRecDepth 100000 in
theorem told_ok (E : Env) (q : HP) (d c : Nat) (A B : Dk) (w : World) (ha : A.RByt) (hb : B.RByt) (hw : Sat E w (HP.disk d A * (HP.disk c B * q))) :
    Calls Tryd.prog 25 #[.pointer (some ⟨d, 0, none⟩), .pointer (some ⟨c, 0, none⟩)] w fun e w' => e = .returned (.bool (toldB A B)) ∧ Sat E w' (HP.disk d A * (HP.disk c B * q)) := by
  have HF := Aside.mk hw.disk_fine
  have HFB := Aside.mk hw.s2.disk_fine
  have HA := Aside.mk ha
  have HB := Aside.mk hb
  have hnl := files_le HF.out
  have HW := Aside.mk hw
  clear hw ha hb
  obtain ⟨nl, hnle⟩ : ∃ nl, nl = A.files.length := ⟨_, rfl⟩
  rw [← hnle] at hnl
  have HNL := Aside.mk hnle
  obtain ⟨R, hR⟩ : ∃ R, R = toldB A B := ⟨_, rfl⟩
  rw [← hR]
  have HR := Aside.mk hR
  clear hnle hR
  go_enter Tryd.func25, Tryd.ntmps25
  go_wp2_with fail
  refine (disk_list E _ d A _ HW.out).mono ?_
  rintro e w2 ⟨v, rfl, h2⟩
  rw [← HNL.out] at h2
  obtain ⟨AL, cL, rfl, hcL, -⟩ := h2.row_slice
  have H2 := Aside.mk h2
  clear h2 HW
  go_wp2
  go_loopw [18] (fun v18 wr => ∃ j : Nat, v18 = .int .i64 j ∧ j ≤ nl ∧ Aside (∀ t < j, ∀ x, A.files[t]? = some x → toldF A B x.1 x.2.length = true) ∧ Aside (Sat E wr (HP.row 9 1 (.slice AL nl cL) nl (namesV A) * (HP.disk d A * (HP.disk c B * q))))) (fun x _ => nl - (intOf x).toNat)
  case atStart => exact ⟨0, rfl, Nat.zero_le _, ⟨fun t ht => by omega⟩, H2⟩
  case round =>
    clear H2
    obtain ⟨j, rfl, hj, HT, HS⟩ := hrel
    by_cases hlt : j < nl
    · have hj1 : (j : Int) < (nl : Int) := by omega
      have hj0 : (0 : Int) ≤ (j : Int) := by omega
      obtain ⟨x, hx⟩ : ∃ x, A.files[j]? = some x := ⟨_, List.getElem?_eq_getElem (by rw [← HNL.out]; exact hlt)⟩
      have hnsz : x.1.size ≤ maxLen := names_le HF.out (List.mem_of_getElem? hx)
      have gj : (namesV A)[j]? = some (.string x.1) := by unfold namesV; rw [List.getElem?_map, hx]; rfl
      obtain ⟨gL, oL, rfl⟩ : ∃ g o, AL = some ⟨g, o, none⟩ := by
        obtain ⟨a, ha, -⟩ := HS.out.row_cells _ _ gj
        obtain ⟨g, o, rfl⟩ : ∃ g o, a = ⟨g, o, none⟩ := slice_addr HS.out.row_cells ha (List.getElem?_eq_some_iff.1 gj).1
        exact ⟨g, o, ha⟩
      have cj := HS.out.row_cells.some_ _ _ gj
      rw [addr_add] at cj
      have hat : A.at x.1 = x.2 := by unfold Dk.at; rw [lk_of_mem HF.out.sorted (List.mem_of_getElem? hx)]; rfl
      have hes := at_small HF.out x.1
      rw [hat] at hes
      have HX1 := Aside.mk (fun w (h : Sat E w (HP.disk d A * (HP.row 9 1 (.slice (some ⟨gL, oL, none⟩) nl cL) nl (namesV A) * (HP.disk c B * q)))) => disk_extents E _ d A x.1 w hnsz h)
      rw [hat] at HX1
      obtain ⟨nm, hnm⟩ : ∃ nm, nm = x.1 := ⟨_, rfl⟩
      obtain ⟨ne, hne⟩ : ∃ ne, ne = x.2.length := ⟨_, rfl⟩
      rw [← hnm] at cj HX1 hnsz hat
      rw [← hne] at HX1 hes
      have HXX := Aside.mk (And.intro hx (And.intro hnm hne))
      have HAT := Aside.mk hat
      have HNS := Aside.mk hnsz
      clear gj hx hnm hne hnsz hat
      go_wp2_with fail
      refine (HX1.out _ HS.out.s2).mono ?_
      rintro e w4 ⟨rfl, hw4⟩; subst w4
      have H4 : Aside (Sat E wr (HP.disk d A * (HP.disk c B * (HP.row 9 1 (.slice (some ⟨gL, oL, none⟩) nl cL) nl (namesV A) * q)))) := ⟨HS.out.perm (by ac_rfl)⟩
      clear HS cj HX1
      go_wp2
      go_loopw [25] (fun v25 wi => ∃ i : Nat, v25 = .int .i64 i ∧ i ≤ ne ∧ Aside (∀ t < i, toldAt A B nm t = true) ∧ Aside (Sat E wi (HP.disk d A * (HP.disk c B * (HP.row 9 1 (.slice (some ⟨gL, oL, none⟩) nl cL) nl (namesV A) * q))))) (fun x _ => ne - (intOf x).toNat)
      case atStart => exact ⟨0, rfl, Nat.zero_le _, ⟨fun t ht => by omega⟩, H4⟩
      case round =>
        clear H4
        obtain ⟨i, rfl, hi, HTI, HS⟩ := hrel
        by_cases hil : i < ne
        · have hi1 : (i : Int) < (ne : Int) := by omega
          have hi0 : (0 : Int) ≤ (i : Int) := by omega
          obtain ⟨a, hca, ham⟩ : ∃ a, A.cel nm i = some a ∧ a ∈ A.at nm := by
            unfold Dk.cel
            have hl : i < (A.at nm).length := by rw [HAT.out, ← HXX.out.2.2]; exact hil
            rw [if_pos (by omega), Int.toNat_natCast, List.getElem?_eq_getElem hl]
            exact ⟨_, rfl, List.getElem_mem hl⟩
          have hfa : a.Fine := by
            rw [HAT.out] at ham
            exact HF.out.cels _ (List.mem_of_getElem? HXX.out.1) a ham
          have hra : readO A nm i = a.read := by unfold readO; rw [hca]
          have HC := Aside.mk (And.intro hca (And.intro hfa.1 (And.intro (HA.out nm i a hca) hra)))
          obtain ⟨rb, hrb⟩ : ∃ rb, rb = readO B nm i := ⟨_, rfl⟩
          have HRB : Aside (Bytes rb ∧ toldAt A B nm i = ((openI a.read nm i).isNone || decide (a.read = rb))) := ⟨by
            rw [hrb]; unfold readO
            cases hcb : B.cel nm i with
            | none => intro x hx; cases hx
            | some b => exact HB.out nm i b hcb, by unfold toldAt; rw [hra, hrb]⟩
          clear hca ham hfa hra
          go_wp2_with fail
          refine (disk_read_ok E _ d A nm i _ HNS.out HS.out).mono ?_
          rw [HC.out.1]
          rintro e w11 ⟨v, rfl, h11⟩
          obtain ⟨B0, b0, rfl, hb0, -⟩ := h11.row_slice
          have H11 : Aside (Sat E w11 (HP.disk c B * (HP.row 5 1 (.slice B0 128 b0) 128 (b8s a.read) * (HP.disk d A * (HP.row 9 1 (.slice (some ⟨gL, oL, none⟩) nl cL) nl (namesV A) * q))))) := ⟨h11.perm (by ac_rfl)⟩
          clear h11 HS
          have HRD : Aside (Calls Tryd.prog 35 #[.pointer (some ⟨c, 0, none⟩), .string nm, .int .i64 i] w11 fun e w' => ∃ (B1 : Option Addr) (n1 b1 : Nat) (e1 : Int), e = .returned (.tuple #[.slice B1 n1 b1, .int .i64 e1]) ∧ rb.length = n1 ∧ Sat E w' (HP.row 5 1 (.slice B1 n1 b1) n1 (b8s rb) * (HP.disk c B * (HP.row 5 1 (.slice B0 128 b0) 128 (b8s a.read) * (HP.disk d A * (HP.row 9 1 (.slice (some ⟨gL, oL, none⟩) nl cL) nl (namesV A) * q)))))) := ⟨(disk_read_ok E _ c B nm i _ HNS.out H11.out).mono fun e w' h => by
            unfold readEnd at h
            cases hcb : B.cel nm i with
            | none =>
              rw [hcb] at h
              have e0 : rb = [] := by rw [hrb]; unfold readO; rw [hcb]
              exact ⟨none, 0, 0, 30, h.1, by rw [e0]; rfl, by rw [e0]; exact h.2.row_nil 5 1 none⟩
            | some b =>
              rw [hcb] at h
              obtain ⟨v, h1, h2⟩ := h
              obtain ⟨B1, b1, rfl, -, -⟩ := h2.row_slice
              have e0 : rb = b.read := by rw [hrb]; unfold readO; rw [hcb]
              have hbm : b.read.length = 128 := by have := h2.row_cases.1; rw [b8s_length] at this; omega
              exact ⟨B1, 128, b1, 0, h1, by rw [e0]; exact hbm, by rw [e0]; exact h2⟩⟩
          clear hrb
          go_wp2_with fail
          refine HRD.out.mono ?_
          rintro e w12 ⟨B1, n1, b1, e1, rfl, hn1, h12⟩
          have H12 : Aside (Sat E w12 (HP.row 5 1 (.slice B0 128 b0) 128 (b8s a.read) * (HP.row 5 1 (.slice B1 n1 b1) n1 (b8s rb) * (HP.disk d A * (HP.disk c B * (HP.row 9 1 (.slice (some ⟨gL, oL, none⟩) nl cL) nl (namesV A) * q)))))) := ⟨h12.perm (by ac_rfl)⟩
          have HN1 := Aside.mk hn1
          clear h12 H11 HRD hn1
          go_wp2_with fail
          refine (ref_open E _ nm i B0 a.read 128 b0 _ HNS.out HC.out.2.1 hb0 HC.out.2.2.1 (fun w h => h.row_cells) H12.out).mono ?_
          rintro e w13 (⟨ho, rfl, h13⟩ | ⟨p, gen, v, ho, rfl, h13⟩)
          · have HT2 : Aside (∀ t < i + 1, toldAt A B nm t = true) := ⟨fun t ht => by
              rcases Nat.lt_or_ge t i with h | h
              · exact HTI.out t h
              · obtain rfl : t = i := by omega
                rw [HRB.out.2, ho]; rfl⟩
            have H13 : Aside (Sat E w13 (HP.disk d A * (HP.disk c B * (HP.row 9 1 (.slice (some ⟨gL, oL, none⟩) nl cL) nl (namesV A) * q)))) := ⟨h13.right.right⟩
            clear ho h13 H12
            go_wp2
            go_roundw
            case rel => exact ⟨i + 1, by go_num, by omega, HT2, H13⟩
            case measure => simp [intOf]; omega
          · have H13 := Aside.mk h13.right
            have HO := Aside.mk ho
            clear ho h13 H12
            go_wp2_with fail
            refine (bytesEq_ok B0 B1 a.read rb 128 n1 b0 b1 _ HC.out.2.1 HN1.out H13.out.row_cells H13.out.s2.row_cells HC.out.2.2.1 HRB.out.1).mono ?_
            rintro e w14 ⟨rfl, hw14⟩; subst w14
            by_cases hab : a.read = rb
            · rw [decide_eq_true hab]
              have HT2 : Aside (∀ t < i + 1, toldAt A B nm t = true) := ⟨fun t ht => by
                rcases Nat.lt_or_ge t i with h | h
                · exact HTI.out t h
                · obtain rfl : t = i := by omega
                  rw [HRB.out.2, decide_eq_true hab, Bool.or_true]⟩
              have H14 : Aside (Sat E w13 (HP.disk d A * (HP.disk c B * (HP.row 9 1 (.slice (some ⟨gL, oL, none⟩) nl cL) nl (namesV A) * q)))) := ⟨H13.out.right.right⟩
              clear hab H13
              go_wp2
              go_roundw
              case rel => exact ⟨i + 1, by go_num, by omega, HT2, H14⟩
              case measure => simp [intOf]; omega
            · rw [decide_eq_false hab]
              have HRF : Aside (R = false) := ⟨by
                rw [HR.out]
                refine toldB_false HXX.out.1 (i := i) (by rw [← HXX.out.2.2]; exact hil) ?_
                rw [← HXX.out.2.1, HRB.out.2, decide_eq_false hab, HO.out]
                rfl⟩
              have H14 : Aside (Sat E w13 (HP.disk d A * (HP.disk c B * q))) := ⟨(H13.out.perm (by ac_rfl : _ = HP.row 5 1 (.slice B0 128 b0) 128 (b8s a.read) * (HP.row 5 1 (.slice B1 n1 b1) n1 (b8s rb) * (HP.row 9 1 (.slice (some ⟨gL, oL, none⟩) nl cL) nl (namesV A) * (HP.disk d A * (HP.disk c B * q)))))).right.right.right⟩
              clear hab H13
              go_wp2
              go_ret
              rw [HRF.out]
              exact ⟨rfl, H14.out⟩
        · have hi1 : ¬ (i : Int) < (ne : Int) := by omega
          have HT2 : Aside (∀ t < j + 1, ∀ x, A.files[t]? = some x → toldF A B x.1 x.2.length = true) := ⟨fun t ht z hz => by
            rcases Nat.lt_or_ge t j with h | h
            · exact HT.out t h z hz
            · obtain rfl : t = j := by omega
              rw [HXX.out.1] at hz
              cases hz
              refine toldF_true fun k hk => ?_
              rw [← HXX.out.2.1]
              exact HTI.out k (by have := HXX.out.2.2; omega)⟩
          have HS2 : Aside (Sat E _ (HP.row 9 1 (.slice (some ⟨gL, oL, none⟩) nl cL) nl (namesV A) * (HP.disk d A * (HP.disk c B * q)))) := ⟨HS.out.s3⟩
          clear HS HTI
          go_wp2
          go_roundw
          case rel => exact ⟨j + 1, by go_num, by omega, HT2, HS2⟩
          case measure => simp [intOf]; omega
    · have hj1 : ¬ (j : Int) < (nl : Int) := by omega
      have HRT : Aside (R = true) := ⟨by rw [HR.out]; exact toldB_true fun t ht x hx => HT.out t (by have := HNL.out; omega) x hx⟩
      have H9 := Aside.mk HS.out.right
      clear HS HT
      go_wp2
      go_ret
      rw [HRT.out]
      exact ⟨rfl, H9.out⟩
end Go.Proofs.YtanlgadijndmaaaDoor
/- AnchorSaves, the plain part: a saving on a new disk; a second one with a fuse, and a crash. -/
namespace Go.Proofs.YtanlgadijndmaaaDoor
open Go.RowKit HP
set_option linter.unusedSimpArgs false
set_option linter.unusedVariables false

/-- The two files of an anchor that was saved. -/
def twoOf (s : Nat) (p : List Int) : Dk := two 2 (-1) (nameA ++ dotA) (nameA ++ dotB) (stl (extI (nameA ++ dotA) 0 s p)) (stl (extI (nameA ++ dotB) 0 s p))
theorem can_seq {a : Anch} (h : canA a = true) : 1 ≤ a.seq ∧ a.seq ≤ 4611686018427387904 := by
  unfold canA btw at h
  simp only [List.all_cons, Bool.and_eq_true, nOk] at h
  have := h.1.1
  simp at this
  omega
theorem save_new {a : Anch} (h1 : btw 0 [a.seq] = true) (h2 : canA a.up = true) : saveP (Dk.new 2) a = ((a.up, 0), twoOf a.up.seq.toNat (encI a.up.l)) := by
  obtain ⟨hs1, hs2⟩ := can_seq h2
  obtain ⟨s, hs⟩ := Int.eq_ofNat_of_zero_le (show 0 ≤ a.up.seq by omega)
  have hl : (encI a.up.l).length = 80 := by rw [encI_length]; rfl
  have f1 : FrameOk ((0 : Nat) : Int) ((s : Nat) : Int) (encI a.up.l).length := ⟨by omega, by omega, by omega, by omega, by rw [hl]; omega⟩
  have p1 : putP (Dk.new 2) nameA 0 s (encI a.up.l) = _ := putP_two (A := Dk.new 2) (x := nameA) f1
  rw [show ((0 : Nat) : Int) = 0 from rfl, put_first2 twoAnch (extI_length (by rw [hl]; omega)) (extI_length (by rw [hl]; omega))] at p1
  unfold saveP
  rw [if_pos ⟨h1, h2⟩, hs, p1, Int.toNat_natCast]
  rfl
theorem twoOf_get (s : Nat) (hs : s ≤ 4611686018427387904) {p : List Int} (hp : p.length ≤ 106) : getP (twoOf s p) nameA 0 = ((s : Int), p) := by
  unfold twoOf
  rw [get_two twoAnch.ne hs hs hp hp rfl rfl, if_pos (Int.le_refl _)]
/-- What is read of a half that was turned and opens to nothing, or reads as before, and of one that was not. -/
theorem get_half {A : Dk} {s : Nat} (hs : s ≤ 4611686018427387904) {p : List Int} (hp : p.length ≤ 106) {ca cb : Cel} (ha : A.cel (nameA ++ dotA) 0 = some ca) (hb : A.cel (nameA ++ dotB) 0 = some cb)
    (h : (openI ca.read (nameA ++ dotA) 0 = none ∨ ca.read = extI (nameA ++ dotA) 0 s p) ∧ cb.read = extI (nameA ++ dotB) 0 s p ∨ ca.read = extI (nameA ++ dotA) 0 s p ∧ (openI cb.read (nameA ++ dotB) 0 = none ∨ cb.read = extI (nameA ++ dotB) 0 s p)) : getP A nameA 0 = ((s : Int), p) := by
  have oa := openI_extI (f := nameA ++ dotA) (i := 0) (by omega) hs hp
  have ob := openI_extI (f := nameA ++ dotB) (i := 0) (by omega) hs hp
  simp only [Int.ofNat_zero, Int.natCast_zero] at oa ob
  have ga : ∀ st, openI ca.read (nameA ++ dotA) 0 = none → getF A 0 st (nameA ++ dotA) = st := fun st h => by simp only [getF, ha, h]
  have ga2 : ca.read = extI (nameA ++ dotA) 0 s p → getF A 0 (-1, []) (nameA ++ dotA) = ((s : Int), p) := fun h => by
    simp only [getF, ha, h, oa]
    rw [if_neg (by show ¬ (s : Int) ≤ -1; omega)]
  have gb : ∀ st, openI cb.read (nameA ++ dotB) 0 = none → getF A 0 st (nameA ++ dotB) = st := fun st h => by simp only [getF, hb, h]
  have gb2 : cb.read = extI (nameA ++ dotB) 0 s p → getF A 0 (-1, []) (nameA ++ dotB) = ((s : Int), p) := fun h => by
    simp only [getF, hb, h, ob]
    rw [if_neg (by show ¬ (s : Int) ≤ -1; omega)]
  have gb3 : cb.read = extI (nameA ++ dotB) 0 s p → getF A 0 ((s : Int), p) (nameA ++ dotB) = ((s : Int), p) := fun h => by
    simp only [getF, hb, h, ob]
    rw [if_pos (Int.le_refl _)]
  unfold getP halvesL
  simp only [List.foldl_cons, List.foldl_nil]
  rcases h with ⟨h1 | h1, h2⟩ | ⟨h1, h2 | h2⟩
  · rw [ga _ h1, gb2 h2]
  · rw [ga2 h1, gb3 h2]
  · rw [ga2 h1, gb _ h2]
  · rw [ga2 h1, gb3 h2]
end Go.Proofs.YtanlgadijndmaaaDoor
/- AnchorSaves, the plain part: one of both files turned; what was saved is read. -/
namespace Go.Proofs.YtanlgadijndmaaaDoor
open Go.RowKit HP
set_option linter.unusedSimpArgs false
set_option linter.unusedVariables false

theorem twoOf_sorted (s : Nat) (p : List Int) : Sorted (twoOf s p).files := by
  unfold twoOf two Sorted
  refine List.pairwise_cons.2 ⟨fun x hx => ?_, List.pairwise_singleton ..⟩
  obtain rfl := List.mem_singleton.1 hx
  exact twoAnch.lt
theorem twoOf_a (s : Nat) (p : List Int) : lk (twoOf s p).files (nameA ++ dotA) = some [stl (extI (nameA ++ dotA) 0 s p)] ∧ (twoOf s p).at (nameA ++ dotA) = [stl (extI (nameA ++ dotA) 0 s p)] := by
  have h : lk (twoOf s p).files (nameA ++ dotA) = some [stl (extI (nameA ++ dotA) 0 s p)] := by unfold twoOf two; rw [lk_cons, if_pos rfl]
  exact ⟨h, by unfold Dk.at; rw [h]; rfl⟩
theorem twoOf_b (s : Nat) (p : List Int) : lk (twoOf s p).files (nameA ++ dotB) = some [stl (extI (nameA ++ dotB) 0 s p)] ∧ (twoOf s p).at (nameA ++ dotB) = [stl (extI (nameA ++ dotB) 0 s p)] := by
  have h : lk (twoOf s p).files (nameA ++ dotB) = some [stl (extI (nameA ++ dotB) 0 s p)] := by unfold twoOf two; rw [lk_cons, if_neg twoAnch.ne, lk_cons, if_pos rfl]
  exact ⟨h, by unfold Dk.at; rw [h]; rfl⟩
theorem stl_still (I : List Int) : Still (stl I) := ⟨rfl, rfl⟩
/-- What was told: an extent that opens reads as before. -/
theorem told_one {A B : Dk} {f : ByteArray} {l : List Cel} {i : Nat} (hl : lk A.files f = some l) (hi : i < l.length) (h : toldB A B = true) : (openI (readO A f i) f i).isNone = true ∨ readO A f i = readO B f i := by
  unfold toldB at h
  have h1 := List.all_eq_true.1 h _ (lk_mem hl)
  unfold toldF at h1
  have h2 := List.all_eq_true.1 h1 i (List.mem_range.2 hi)
  unfold toldAt at h2
  simpa using h2
theorem half_told {s : Nat} {p : List Int} (hs : s ≤ 4611686018427387904) (hp : p.length ≤ 106) (bp : Bytes p) {f : ByteArray} (hf : f = nameA ++ dotA ∨ f = nameA ++ dotB) {B : Dk} (h : RotS f (twoOf s p) B) :
    (∀ g ∈ halvesL nameA, ∀ c, B.cel g 0 = some c → Bytes c.read) ∧ (toldB B (twoOf s p) = true → getP B nameA 0 = ((s : Int), p)) := by
  have hso := twoOf_sorted s p
  have bI : ∀ g, Bytes (extI g 0 s p) := fun g => extI_bytes hp bp
  have key : ∀ (f : ByteArray) (I : List Int), lk (twoOf s p).files f = some [stl I] → (twoOf s p).at f = [stl I] → Bytes I → RotS f (twoOf s p) B → ∃ c, B = (twoOf s p).set f [c] ∧ Bytes c.read ∧ c.read.length = I.length := by
    intro f I h1 h2 hb hr
    obtain ⟨l', rfl, hlen, hT⟩ := rotS_at hso (by rw [h1, h2]) (fun c hc => by rw [h2] at hc; obtain rfl := List.mem_singleton.1 hc; exact stl_still I) hr
    rw [h2] at hlen hT
    match l', hlen with
    | [c], _ =>
      have t := hT 0 (stl I) c rfl rfl
      exact ⟨c, rfl, t.byt hb, t.len⟩
  have ro : ∀ (A : Dk) (g : ByteArray) (c : Cel), A.cel g 0 = some c → readO A g ((0 : Nat) : Int) = c.read := fun A g c hc => by unfold readO; rw [Int.natCast_zero, hc]
  rcases hf with rfl | rfl
  · obtain ⟨c, rfl, hcb, hcl⟩ := key _ _ (twoOf_a s p).1 (twoOf_a s p).2 (bI _) h
    have e1 : ((twoOf s p).set (nameA ++ dotA) [c]).cel (nameA ++ dotA) 0 = some c := by unfold Dk.cel; rw [at_set hso, if_pos rfl]; rfl
    have e2 : ((twoOf s p).set (nameA ++ dotA) [c]).cel (nameA ++ dotB) 0 = some (stl (extI (nameA ++ dotB) 0 s p)) := by unfold Dk.cel; rw [at_set hso, if_neg twoAnch.ne, (twoOf_b s p).2]; rfl
    have e3 : (twoOf s p).cel (nameA ++ dotA) 0 = some (stl (extI (nameA ++ dotA) 0 s p)) := by unfold Dk.cel; rw [(twoOf_a s p).2]; rfl
    refine ⟨fun g hg z hz => ?_, fun ht => ?_⟩
    · rcases List.mem_cons.1 hg with rfl | hg
      · rw [e1] at hz; cases hz; exact hcb
      · obtain rfl := List.mem_singleton.1 hg
        rw [e2] at hz; cases hz; exact bI _
    · have h1 := told_one (f := nameA ++ dotA) (l := [c]) (i := 0) (by rw [lk_set hso, if_pos rfl]) (by simp) ht
      rw [ro _ _ _ e1, ro _ _ _ e3, Int.natCast_zero] at h1
      refine get_half hs hp e1 e2 (.inl ⟨?_, rfl⟩)
      rcases h1 with h1 | h1
      · exact .inl (Option.isNone_iff_eq_none.1 h1)
      · exact .inr h1
  · obtain ⟨c, rfl, hcb, hcl⟩ := key _ _ (twoOf_b s p).1 (twoOf_b s p).2 (bI _) h
    have e1 : ((twoOf s p).set (nameA ++ dotB) [c]).cel (nameA ++ dotB) 0 = some c := by unfold Dk.cel; rw [at_set hso, if_pos rfl]; rfl
    have e2 : ((twoOf s p).set (nameA ++ dotB) [c]).cel (nameA ++ dotA) 0 = some (stl (extI (nameA ++ dotA) 0 s p)) := by unfold Dk.cel; rw [at_set hso, if_neg (Ne.symm twoAnch.ne), (twoOf_a s p).2]; rfl
    have e3 : (twoOf s p).cel (nameA ++ dotB) 0 = some (stl (extI (nameA ++ dotB) 0 s p)) := by unfold Dk.cel; rw [(twoOf_b s p).2]; rfl
    refine ⟨fun g hg z hz => ?_, fun ht => ?_⟩
    · rcases List.mem_cons.1 hg with rfl | hg
      · rw [e2] at hz; cases hz; exact bI _
      · obtain rfl := List.mem_singleton.1 hg
        rw [e1] at hz; cases hz; exact hcb
    · have h1 := told_one (f := nameA ++ dotB) (l := [c]) (i := 0) (by rw [lk_set hso, if_pos rfl]) (by simp) ht
      rw [ro _ _ _ e1, ro _ _ _ e3, Int.natCast_zero] at h1
      refine get_half hs hp e2 e1 (.inr ⟨rfl, ?_⟩)
      rcases h1 with h1 | h1
      · exact .inl (Option.isNone_iff_eq_none.1 h1)
      · exact .inr h1
end Go.Proofs.YtanlgadijndmaaaDoor
/- AnchorSaves, the plain part: a second saving on a disk with room for two files, with a fuse. -/
namespace Go.Proofs.YtanlgadijndmaaaDoor
open Go.RowKit HP
set_option linter.unusedSimpArgs false
set_option linter.unusedVariables false

section
variable {fa fb : ByteArray} {Ia Ib : List Int} (T : TwoNames fa fb) (la : Ia.length = 128) (lb : Ib.length = 128)
include T la lb
theorem put_twice (n : Nat) (hn : n < 5) (a b : Cel) : put2 (two 2 n fa fb a b) fa fb 0 Ia Ib =
    match n with
    | 0 => (31, two 2 0 fa fb a b)
    | 1 => (31, two 2 0 fa fb (a.wrote Ia) b)
    | 2 => (31, two 2 0 fa fb (stl Ia) b)
    | 3 => (31, two 2 0 fa fb (stl Ia) (b.wrote Ib))
    | _ => (0, two 2 0 fa fb (stl Ia) (stl Ib)) := by
  obtain ⟨na, nb, ne, lt, gt⟩ := T
  have ne' := Ne.symm ne
  match n, hn with
  | 0, _ => simp [put2, wr1, Dk.write, Dk.sync, Dk.new, Dk.at, Dk.free, Dk.goes, Dk.burnt, burnI, Dk.set, lk_nil, lk_cons, putF, sizeF, na, nb, ne, ne', lt, gt, la, lb, stl_sync, two]
  | 1, _ => simp [put2, wr1, Dk.write, Dk.sync, Dk.new, Dk.at, Dk.free, Dk.goes, Dk.burnt, burnI, Dk.set, lk_nil, lk_cons, putF, sizeF, na, nb, ne, ne', lt, gt, la, lb, stl_sync, two]
  | 2, _ => simp [put2, wr1, Dk.write, Dk.sync, Dk.new, Dk.at, Dk.free, Dk.goes, Dk.burnt, burnI, Dk.set, lk_nil, lk_cons, putF, sizeF, na, nb, ne, ne', lt, gt, la, lb, stl_sync, two]
  | 3, _ => simp [put2, wr1, Dk.write, Dk.sync, Dk.new, Dk.at, Dk.free, Dk.goes, Dk.burnt, burnI, Dk.set, lk_nil, lk_cons, putF, sizeF, na, nb, ne, ne', lt, gt, la, lb, stl_sync, two]
  | 4, _ => simp [put2, wr1, Dk.write, Dk.sync, Dk.new, Dk.at, Dk.free, Dk.goes, Dk.burnt, burnI, Dk.set, lk_nil, lk_cons, putF, sizeF, na, nb, ne, ne', lt, gt, la, lb, stl_sync, two]
end
theorem crash2_wrote (I J : List Int) : (((stl I).wrote J).crashd 0).read = I := by simp [stl, Cel.wrote, Cel.crashd]
theorem crash2_two (room fuse : Int) (fa fb : ByteArray) (a b : Cel) : (two room fuse fa fb a b).crash [] = two room (-1) fa fb (a.crashd 0) (b.crashd 0) := by
  have h : ∀ s i, keepOf [] s i = 0 := fun s i => rfl
  simp [two, Dk.crash, crashL, h]
structure TwiceEnd (n s t : Nat) (p q : List Int) (c : Int) (A : Dk) : Prop where
  code : c = 0 ↔ n = 4
  got : getP (A.crash []) nameA 0 = if 2 ≤ n then ((t : Int), q) else ((s : Int), p)
  bytes : ∀ f ∈ halvesL nameA, ∀ c, (A.crash []).cel f 0 = some c → Bytes c.read
theorem twice_all {s t : Nat} (st : s < t) (ht : t ≤ 4611686018427387904) {p q : List Int} (lp : p.length ≤ 106) (lq : q.length ≤ 106) (bp : Bytes p) (bq : Bytes q) {n : Nat} (hn : n < 5) :
    TwiceEnd n s t p q (putP { twoOf s p with fuse := n } nameA 0 t q).1 (putP { twoOf s p with fuse := n } nameA 0 t q).2 := by
  have f6 : FrameOk ((0 : Nat) : Int) ((t : Nat) : Int) q.length := ⟨by omega, by omega, by omega, by omega, lq⟩
  have p6 : putP (two 2 n (nameA ++ dotA) (nameA ++ dotB) (stl (extI (nameA ++ dotA) 0 s p)) (stl (extI (nameA ++ dotB) 0 s p))) nameA 0 t q = _ := putP_two (x := nameA) f6
  rw [show ((0 : Nat) : Int) = 0 from rfl, put_twice twoAnch (extI_length lq) (extI_length lq) n hn] at p6
  have key : ∀ (A : Dk) (ca cb : Cel) (ga gb : Nat) (pa pb : List Int), A.crash [] = two 2 (-1) (nameA ++ dotA) (nameA ++ dotB) ca cb → ca.read = extI (nameA ++ dotA) 0 ga pa → cb.read = extI (nameA ++ dotB) 0 gb pb → ga ≤ t → gb ≤ t → pa.length ≤ 106 → pb.length ≤ 106 → Bytes pa → Bytes pb →
      getP (A.crash []) nameA 0 = (if (gb : Int) ≤ ga then ((ga : Int), pa) else ((gb : Int), pb)) ∧ ∀ f ∈ halvesL nameA, ∀ c, (A.crash []).cel f 0 = some c → Bytes c.read := by
    intro A ca cb ga gb pa pb hA ra rb hga hgb lpa lpb bpa bpb
    rw [hA]
    refine ⟨get_two twoAnch.ne (by omega) (by omega) lpa lpb ra rb, fun f hf c hc => ?_⟩
    rcases List.mem_cons.1 hf with rfl | hf
    · rw [cel_a] at hc
      cases hc
      rw [ra]; exact extI_bytes lpa bpa
    · obtain rfl := List.mem_singleton.1 hf
      rw [cel_b twoAnch.ne] at hc
      cases hc
      rw [rb]; exact extI_bytes lpb bpb
  show TwiceEnd n s t p q (putP (two 2 n (nameA ++ dotA) (nameA ++ dotB) (stl (extI (nameA ++ dotA) 0 s p)) (stl (extI (nameA ++ dotB) 0 s p))) nameA 0 t q).1 (putP (two 2 n (nameA ++ dotA) (nameA ++ dotB) (stl (extI (nameA ++ dotA) 0 s p)) (stl (extI (nameA ++ dotB) 0 s p))) nameA 0 t q).2
  rw [p6]
  have e1 : ∀ x : Nat, (x : Int) ≤ x := fun x => Int.le_refl _
  have e2 : (s : Int) ≤ t := by omega
  match n, hn with
  | 0, _ => exact ⟨show ((31 : Int) = 0 ↔ (0 : Nat) = 4) by decide, (key _ _ _ s s p p (crash2_two ..) rfl rfl (by omega) (by omega) lp lp bp bp).1.trans (if_pos (e1 _)), (key _ _ _ s s p p (crash2_two ..) rfl rfl (by omega) (by omega) lp lp bp bp).2⟩
  | 1, _ => exact ⟨show ((31 : Int) = 0 ↔ (1 : Nat) = 4) by decide, (key _ _ _ s s p p (crash2_two ..) (crash2_wrote _ _) rfl (by omega) (by omega) lp lp bp bp).1.trans (if_pos (e1 _)), (key _ _ _ s s p p (crash2_two ..) (crash2_wrote _ _) rfl (by omega) (by omega) lp lp bp bp).2⟩
  | 2, _ => exact ⟨show ((31 : Int) = 0 ↔ (2 : Nat) = 4) by decide, (key _ _ _ t s q p (crash2_two ..) rfl rfl (by omega) (by omega) lq lp bq bp).1.trans (if_pos e2), (key _ _ _ t s q p (crash2_two ..) rfl rfl (by omega) (by omega) lq lp bq bp).2⟩
  | 3, _ => exact ⟨show ((31 : Int) = 0 ↔ (3 : Nat) = 4) by decide, (key _ _ _ t s q p (crash2_two ..) rfl (crash2_wrote _ _) (by omega) (by omega) lq lp bq bp).1.trans (if_pos e2), (key _ _ _ t s q p (crash2_two ..) rfl (crash2_wrote _ _) (by omega) (by omega) lq lp bq bp).2⟩
  | 4, _ => exact ⟨show ((0 : Int) = 0 ↔ (4 : Nat) = 4) by decide, (key _ _ _ t t q q (crash2_two ..) rfl rfl (by omega) (by omega) lq lq bq bq).1.trans (if_pos (e1 _)), (key _ _ _ t t q q (crash2_two ..) rfl rfl (by omega) (by omega) lq lq bq bq).2⟩
end Go.Proofs.YtanlgadijndmaaaDoor
/- AnchorSaves, the plain part: what the second saving leaves is loaded: the one ahead or the new one. -/
namespace Go.Proofs.YtanlgadijndmaaaDoor
open Go.RowKit HP
set_option linter.unusedSimpArgs false
set_option linter.unusedVariables false

theorem load_of {A : Dk} {a : Anch} (ok : a.Ok) (hc : canA a = true) (h : getP A nameA 0 = (a.seq, encI a.l)) : loadA A = (a, 0) := by
  obtain ⟨h1, h2⟩ := can_seq hc
  unfold loadA
  rw [h]
  dsimp only
  rw [decP_encI ok hc, if_pos ⟨by omega, rfl, rfl⟩]
/-- At the greatest number the next saving is refused. -/
theorem top_refused {z : Anch} (h : z.seq = 4611686018427387904) : ¬ (btw 0 [z.seq] = true ∧ canA z.up = true) := by
  rintro ⟨-, h2⟩
  obtain ⟨s1, s2⟩ := can_seq h2
  have : z.up.seq = z.seq + 1 := rfl
  omega
/-- A second saving, stopped anywhere, then a crash. -/
structure SecondEnd (x z : Anch) (n : Nat) (c : Int) (B : Dk) : Prop where
  save : saveP { twoOf x.seq.toNat (encI x.l) with fuse := n } z = ((if c = 0 then z.up else zeroA, c), B)
  load : loadA (B.crash []) = (x, 0) ∨ loadA (B.crash []) = (z.up, 0)
  new : c = 0 → loadA (B.crash []) = (z.up, 0)
  top : x.seq = 4611686018427387904 → c = 1 ∧ loadA (B.crash []) = (x, 0)
  bytes : ∀ f ∈ halvesL nameA, ∀ k, (B.crash []).cel f 0 = some k → Bytes k.read
theorem second_end {x z : Anch} (okx : x.Ok) (hx : canA x = true) (okz : z.up.Ok) (hz : z.seq = x.seq) {n : Nat} (hn : n < 5) : ∃ c B, SecondEnd x z n c B := by
  obtain ⟨h1, h2⟩ := can_seq hx
  obtain ⟨s, hs⟩ := Int.eq_ofNat_of_zero_le (show 0 ≤ x.seq by omega)
  have lx : (encI x.l).length ≤ 106 := by rw [encI_length]; show 8 * 10 ≤ 106; omega
  have lz : (encI z.up.l).length ≤ 106 := by rw [encI_length]; show 8 * 10 ≤ 106; omega
  by_cases g : btw 0 [z.seq] = true ∧ canA z.up = true
  · obtain ⟨g1, g2⟩ := can_seq g.2
    have e : z.up.seq = ((s + 1 : Nat) : Int) := by show z.seq + 1 = _; rw [hz, hs]; push_cast; rfl
    have T := twice_all (s := s) (t := s + 1) (by omega) (by omega) lx lz (encI_bytes _) (encI_bytes _) hn
    refine ⟨(putP { twoOf s (encI x.l) with fuse := n } nameA 0 ((s + 1 : Nat) : Int) (encI z.up.l)).1, (putP { twoOf s (encI x.l) with fuse := n } nameA 0 ((s + 1 : Nat) : Int) (encI z.up.l)).2, ?_, ?_, ?_, ?_, T.bytes⟩
    · unfold saveP
      rw [if_pos g, hs, Int.toNat_natCast, e]
      by_cases c0 : (putP { twoOf s (encI x.l) with fuse := n } nameA 0 ((s + 1 : Nat) : Int) (encI z.up.l)).1 = 0
      · rw [if_pos c0, if_pos c0, c0]
      · rw [if_neg c0, if_neg c0]
    · by_cases k : 2 ≤ n
      · exact Or.inr (load_of okz g.2 (by rw [e, T.got, if_pos k]))
      · exact Or.inl (load_of okx hx (by rw [hs, T.got, if_neg k]))
    · intro c0
      have k := T.code.1 c0
      exact load_of okz g.2 (by rw [e, T.got, if_pos (by omega)])
    · intro ht
      exact absurd g (top_refused (by rw [hz]; exact ht))
  · have key : ∀ m : Int, (({ twoOf s (encI x.l) with fuse := m } : Dk)).crash [] = twoOf s (encI x.l) := fun m => crash2_two ..
    have hl : loadA (({ twoOf x.seq.toNat (encI x.l) with fuse := (n : Int) } : Dk).crash []) = (x, 0) := by
      rw [hs, Int.toNat_natCast, key]
      exact load_of okx hx (by rw [hs]; exact twoOf_get s (by omega) lx)
    refine ⟨1, { twoOf x.seq.toNat (encI x.l) with fuse := n }, by unfold saveP; rw [if_neg g]; rfl, Or.inl hl, fun h => absurd h (by decide), fun _ => ⟨rfl, hl⟩, ?_⟩
    rw [hs, Int.toNat_natCast, key]
    intro f hf k hk
    rcases List.mem_cons.1 hf with rfl | hf
    · unfold Dk.cel at hk
      rw [(twoOf_a s _).2] at hk
      cases hk
      exact extI_bytes lx (encI_bytes _)
    · obtain rfl := List.mem_singleton.1 hf
      unfold Dk.cel at hk
      rw [(twoOf_b s _).2] at hk
      cases hk
      exact extI_bytes lx (encI_bytes _)
/-- A first saving is refused only where the document says so. -/
theorem first_refused {a : Anch} (h : ¬ (btw 0 [a.seq] = true ∧ canA a.up = true)) : canA a = false ∨ a.seq = 0 ∨ 4611686018427387904 ≤ a.seq := by
  by_cases h1 : canA a = true
  · refine Or.inr ?_
    obtain ⟨s1, s2⟩ := can_seq h1
    by_cases h2 : 4611686018427387904 ≤ a.seq
    · exact Or.inr h2
    · refine absurd ⟨?_, ?_⟩ h
      · simp [btw, nOk]
        omega
      · unfold canA btw at h1 ⊢
        simp only [List.all_cons, List.all_nil, Bool.and_eq_true, nOk, Anch.up, decide_eq_true_eq, Bool.and_true] at h1 ⊢
        omega
  · exact Or.inl (by simpa using h1)
/-- An anchor one up holds ints. -/
theorem up_ok {a : Anch} (ok : a.Ok) (h : canA a.up = true) : a.up.Ok := by
  obtain ⟨s1, s2⟩ := can_seq h
  exact ⟨by unfold wf64; omega, ok.gen, ok.lsn, ok.seg, ok.ext, ok.flo, ok.new, ok.keep, ok.next, ok.cur⟩
end Go.Proofs.YtanlgadijndmaaaDoor
/- AnchorSaves, the plain part: the disks' extents hold bytes. -/
namespace Go.Proofs.YtanlgadijndmaaaDoor
open Go.RowKit HP
set_option linter.unusedSimpArgs false
set_option linter.unusedVariables false

theorem rbyt_at {A : Dk} (h : ∀ f, ∀ c ∈ A.at f, Bytes c.read) : A.RByt := by
  intro f i c hc
  unfold Dk.cel at hc
  split at hc
  · exact h f c (List.mem_of_getElem? hc)
  · cases hc
theorem twoOf_at_byt (s : Nat) {p : List Int} (hp : p.length ≤ 106) (bp : Bytes p) : ∀ f, ∀ c ∈ (twoOf s p).at f, Bytes c.read := by
  intro f c hc
  unfold twoOf two Dk.at at hc
  dsimp only at hc
  rw [lk_cons] at hc
  split at hc
  · obtain rfl := List.mem_singleton.1 hc
    exact extI_bytes hp bp
  · rw [lk_cons] at hc
    split at hc
    · obtain rfl := List.mem_singleton.1 hc
      exact extI_bytes hp bp
    · cases hc
theorem twoOf_rbyt (s : Nat) {p : List Int} (hp : p.length ≤ 106) (bp : Bytes p) : (twoOf s p).RByt := rbyt_at (twoOf_at_byt s hp bp)
theorem set_rbyt {A : Dk} (hso : Sorted A.files) (h : ∀ f, ∀ c ∈ A.at f, Bytes c.read) {f : ByteArray} {l : List Cel} (hl : ∀ c ∈ l, Bytes c.read) : (A.set f l).RByt := by
  refine rbyt_at fun g c hc => ?_
  rw [at_set hso] at hc
  split at hc
  · exact hl c hc
  · exact h g c hc
/-- A disk of which one of both files was turned holds bytes. -/
theorem turned_rbyt {s : Nat} {p : List Int} (hp : p.length ≤ 106) (bp : Bytes p) {f : ByteArray} (hf : f = nameA ++ dotA ∨ f = nameA ++ dotB) {B : Dk} (h : RotS f (twoOf s p) B) : B.RByt := by
  have key : ∀ (I : List Int), lk (twoOf s p).files f = some [stl I] → (twoOf s p).at f = [stl I] → Bytes I → B.RByt := by
    intro I h1 h2 hb
    obtain ⟨l', rfl, hlen, hT⟩ := rotS_at (twoOf_sorted s p) (by rw [h1, h2]) (fun c hc => by rw [h2] at hc; obtain rfl := List.mem_singleton.1 hc; exact stl_still I) h
    rw [h2] at hlen hT
    match l', hlen with
    | [c], _ =>
      have t := hT 0 (stl I) c rfl rfl
      exact set_rbyt (twoOf_sorted s p) (twoOf_at_byt s hp bp) fun z hz => by
        obtain rfl := List.mem_singleton.1 hz
        exact t.byt hb
  rcases hf with rfl | rfl
  · exact key _ (twoOf_a s p).1 (twoOf_a s p).2 (extI_bytes hp bp)
  · exact key _ (twoOf_b s p).1 (twoOf_b s p).2 (extI_bytes hp bp)
end Go.Proofs.YtanlgadijndmaaaDoor
/- anchor.Save. -/
namespace Go.Proofs.YtanlgadijndmaaaDoor
open Go.RowKit HP
set_option linter.unusedSimpArgs false
set_option linter.unusedVariables false

set_option maxHeartbeats 4000000 in
set_option maxRecDepth 100000 in
theorem anchor_save (E : Env) (q : HP) (d : Nat) (A : Dk) (a : Anch) (w : World) (hs64 : wf64 a.seq) (hq : ∀ w, Sat E w q → Quarter w) (hw : Sat E w (HP.disk d A * q)) :
    Calls Tryd.prog 20 #[.pointer (some ⟨d, 0, none⟩), .agg #[.int .i64 a.seq, .int .i64 a.gen, .int .i64 a.lsn, .int .i64 a.seg, .int .i64 a.ext, .int .i64 a.flo, .int .i64 a.new, .int .i64 a.keep, .int .i64 a.next, .int .i64 a.cur]] w fun e w' => e = .returned (.tuple #[(saveP A a).1.1.val, .int .i64 (saveP A a).1.2]) ∧ Sat E w' (HP.disk d (saveP A a).2 * q) := by
  have h1 := (hw.alloc (.cells #[.int .i64 a.seq, .int .i64 a.gen, .int .i64 a.lsn, .int .i64 a.seg, .int .i64 a.ext, .int .i64 a.flo, .int .i64 a.new, .int .i64 a.keep, .int .i64 a.next, .int .i64 a.cur] 34)).alloc (.cells #[.int .i64 0, .int .i64 0, .int .i64 0, .int .i64 0, .int .i64 0, .int .i64 0, .int .i64 0, .int .i64 0, .int .i64 0, .int .i64 0] 34)
  have hz : (w.alloc (.cells #[.int .i64 a.seq, .int .i64 a.gen, .int .i64 a.lsn, .int .i64 a.seg, .int .i64 a.ext, .int .i64 a.flo, .int .i64 a.new, .int .i64 a.keep, .int .i64 a.next, .int .i64 a.cur] 34)).heap.size = w.heap.size + 1 := by simp
  rw [hz] at h1
  have H1 : Aside (Sat E ((w.alloc (.cells #[.int .i64 a.seq, .int .i64 a.gen, .int .i64 a.lsn, .int .i64 a.seg, .int .i64 a.ext, .int .i64 a.flo, .int .i64 a.new, .int .i64 a.keep, .int .i64 a.next, .int .i64 a.cur] 34)).alloc (.cells #[.int .i64 0, .int .i64 0, .int .i64 0, .int .i64 0, .int .i64 0, .int .i64 0, .int .i64 0, .int .i64 0, .int .i64 0, .int .i64 0] 34)) (HP.disk d A * (HP.pt w.heap.size (.cells #[.int .i64 a.seq, .int .i64 a.gen, .int .i64 a.lsn, .int .i64 a.seg, .int .i64 a.ext, .int .i64 a.flo, .int .i64 a.new, .int .i64 a.keep, .int .i64 a.next, .int .i64 a.cur] 34) * (HP.pt (w.heap.size + 1) (.cells #[.int .i64 0, .int .i64 0, .int .i64 0, .int .i64 0, .int .i64 0, .int .i64 0, .int .i64 0, .int .i64 0, .int .i64 0, .int .i64 0] 34) * q)))) := ⟨h1.perm (by ac_rfl)⟩
  have HQ := Aside.mk hq
  have hx : nameA.size + 2 ≤ maxLen := by show 8 ≤ maxLen; unfold maxLen; omega
  have HX := Aside.mk hx
  have H64 := Aside.mk hs64
  have HS : Aside (saveP A a = if btw 0 [a.seq] = true ∧ canA a.up = true then
    (if (putP A nameA 0 a.up.seq (encI a.up.l)).1 = 0 then (a.up, 0) else (zeroA, (putP A nameA 0 a.up.seq (encI a.up.l)).1), (putP A nameA 0 a.up.seq (encI a.up.l)).2)
  else ((zeroA, 1), A)) := ⟨rfl⟩
  clear hq hw h1 hz hx hs64
  go_enter Tryd.func20, Tryd.ntmps20
  go_wp2_with fail
  refine (disk_asked E _ d A _ H1.out).mono ?_
  rintro e w1 ⟨rfl, h2⟩
  have k0 : w1.cell? ⟨w.heap.size, 0, none⟩ = some (.int .i64 a.seq) := h2.right.cell 0
  have H2 := Aside.mk (h2.alloc (.cells #[.int .i64 a.seq] 3))
  clear h2 H1
  go_wp2_with fail
  refine (between_ok E _ 0 w1.heap.size [a.seq] 1 1 _ rfl (by omega) (fun w h => Sat.ptCells (off := 0) (l := i8s [a.seq]) h rfl) H2.out).mono ?_
  rintro e w2 ⟨rfl, h3⟩
  have H3 := Aside.mk h3.right
  clear h3 H2 k0
  obtain ⟨cb, hcb⟩ : ∃ cb, cb = btw 0 [a.seq] := ⟨_, rfl⟩
  rw [← hcb] at HS ⊢
  have HCB := Aside.mk hcb
  clear hcb
  cases cb with
  | false =>
    rw [if_neg (by simp)] at HS
    have r2 : (storeVar 34 ⟨w.heap.size + 1, 0, none⟩ (.agg (i8s zeroA.l).toArray)).run Tryd.prog w2 = .ok () (w2.setRow (w.heap.size + 1) (i8s zeroA.l).toArray) := run_storeAgg agAnch (g := w.heap.size + 1) (off := 0) (cs := i8s zeroA.l) H3.out.s3.get rfl (by show 0 + 10 ≤ 10; omega) rfl
    have h5 := H3.out.s3.splice (i8s zeroA.l)
    have H5 := Aside.mk h5
    clear h5 H3
    generalize World.setRow w2 _ _ = w5 at *
    go_wp2_with (refine wpList_store_run rfl rfl rfl rfl rfl r2 ?_)
    go_wp2
    refine bodyPost_ret (results_cellTmp rfl rfl (run_loadAgg agAnch (cs := i8s zeroA.l) rfl (Sat.ptCells (off := 0) H5.out rfl))) rfl ?_
    rw [HS.out]
    exact ⟨rfl, H5.out.right.perm (by ac_rfl : _ = HP.pt w.heap.size (.cells #[.int .i64 a.seq, .int .i64 a.gen, .int .i64 a.lsn, .int .i64 a.seg, .int .i64 a.ext, .int .i64 a.flo, .int .i64 a.new, .int .i64 a.keep, .int .i64 a.next, .int .i64 a.cur] 34) * (HP.disk d A * q)) |>.right⟩
  | true =>
    have hrg : 0 ≤ a.seq ∧ a.seq ≤ 4611686018427387904 := by
      have := HCB.out.symm
      simpa [btw, nOk] using this
    obtain ⟨s0, s1⟩ := hrg
    have k0 : w2.cell? ⟨w.heap.size, 0, none⟩ = some (.int .i64 a.seq) := H3.out.s2.cell 0
    have kf : w2.frozen? ⟨w.heap.size, 0, none⟩ = false := H3.out.s2.thaw 0
    have h4 : Sat E (w2.setCell ⟨w.heap.size, 0, none⟩ (.int .i64 (a.seq + 1))) (HP.pt w.heap.size (.cells #[.int .i64 (a.seq + 1), .int .i64 a.gen, .int .i64 a.lsn, .int .i64 a.seg, .int .i64 a.ext, .int .i64 a.flo, .int .i64 a.new, .int .i64 a.keep, .int .i64 a.next, .int .i64 a.cur] 34) * (HP.disk d A * (HP.pt (w.heap.size + 1) (.cells #[.int .i64 0, .int .i64 0, .int .i64 0, .int .i64 0, .int .i64 0, .int .i64 0, .int .i64 0, .int .i64 0, .int .i64 0, .int .i64 0] 34) * q))) := H3.out.s2.set (i := 0) (.int .i64 (a.seq + 1))
    have H4 := Aside.mk h4
    have r1 : (loadVar 34 ⟨w.heap.size, 0, none⟩).run Tryd.prog (w2.setCell ⟨w.heap.size, 0, none⟩ (.int .i64 (a.seq + 1))) = .ok (.agg (i8s a.up.l).toArray) (w2.setCell ⟨w.heap.size, 0, none⟩ (.int .i64 (a.seq + 1))) := run_loadAgg agAnch (cs := i8s a.up.l) rfl (Sat.ptCells (off := 0) h4 rfl)
    clear h4 H3
    go_wp2_with (refine wpList_load_run rfl rfl rfl r1 ?_)
    refine (encode_ok E _ a.up _ H4.out).mono ?_
    intro e w3 h5
    clear H4 r1 k0 kf
    unfold encEnd at h5
    by_cases hc : canA a.up = true
    · rw [if_pos hc] at h5
      rw [if_pos ⟨trivial, hc⟩] at HS
      clear hc
      obtain ⟨v, rfl, h5⟩ := h5
      obtain ⟨Av, cv, rfl, hcv, hcm⟩ := h5.row_slice
      have k1 : w3.cell? ⟨w.heap.size, 0, none⟩ = some (.int .i64 (a.seq + 1)) := h5.right.cell 0
      have h6 : Sat E w3 (HP.disk d A * (HP.row 5 1 (.slice Av 80 cv) 80 (b8s (encI a.up.l)) * (HP.pt w.heap.size (.cells #[.int .i64 (a.seq + 1), .int .i64 a.gen, .int .i64 a.lsn, .int .i64 a.seg, .int .i64 a.ext, .int .i64 a.flo, .int .i64 a.new, .int .i64 a.keep, .int .i64 a.next, .int .i64 a.cur] 34) * (HP.pt (w.heap.size + 1) (.cells #[.int .i64 0, .int .i64 0, .int .i64 0, .int .i64 0, .int .i64 0, .int .i64 0, .int .i64 0, .int .i64 0, .int .i64 0, .int .i64 0] 34) * q)))) := h5.perm (by ac_rfl)
      have HE := Aside.mk (And.intro (show (encI a.up.l).length = 80 by rw [encI_length]; rfl) (encI_bytes a.up.l))
      have HQ2 : Aside (∀ w', Sat E w' (HP.row 5 1 (.slice Av 80 cv) 80 (b8s (encI a.up.l)) * (HP.pt w.heap.size (.cells #[.int .i64 (a.seq + 1), .int .i64 a.gen, .int .i64 a.lsn, .int .i64 a.seg, .int .i64 a.ext, .int .i64 a.flo, .int .i64 a.new, .int .i64 a.keep, .int .i64 a.next, .int .i64 a.cur] 34) * (HP.pt (w.heap.size + 1) (.cells #[.int .i64 0, .int .i64 0, .int .i64 0, .int .i64 0, .int .i64 0, .int .i64 0, .int .i64 0, .int .i64 0, .int .i64 0, .int .i64 0] 34) * q))) → Quarter w' ∧ Cells w' Av (b8s (encI a.up.l))) := ⟨fun w' h => ⟨HQ.out w' h.right.right.right, h.row_cells⟩⟩
      have H6 := Aside.mk h6
      clear h5 h6
      go_wp2_with fail
      refine (pair_put E _ d A nameA 0 (a.seq + 1) Av (encI a.up.l) 80 cv _ HX.out HE.out.1 hcv HE.out.2 HQ2.out H6.out).mono ?_
      rintro e w4 ⟨rfl, h7⟩
      rw [show a.up.seq = a.seq + 1 from rfl] at HS
      obtain ⟨⟨c, B⟩, hcB⟩ : ∃ r, r = putP A nameA 0 (a.seq + 1) (encI a.up.l) := ⟨_, rfl⟩
      rw [← hcB] at h7 HS ⊢
      have h8 : Sat E w4 (HP.pt (w.heap.size + 1) (.cells #[.int .i64 0, .int .i64 0, .int .i64 0, .int .i64 0, .int .i64 0, .int .i64 0, .int .i64 0, .int .i64 0, .int .i64 0, .int .i64 0] 34) * (HP.pt w.heap.size (.cells #[.int .i64 (a.seq + 1), .int .i64 a.gen, .int .i64 a.lsn, .int .i64 a.seg, .int .i64 a.ext, .int .i64 a.flo, .int .i64 a.new, .int .i64 a.keep, .int .i64 a.next, .int .i64 a.cur] 34) * (HP.disk d B * q))) := (h7.perm (by ac_rfl : _ = HP.row 5 1 (.slice Av 80 cv) 80 (b8s (encI a.up.l)) * (HP.pt (w.heap.size + 1) (.cells #[.int .i64 0, .int .i64 0, .int .i64 0, .int .i64 0, .int .i64 0, .int .i64 0, .int .i64 0, .int .i64 0, .int .i64 0, .int .i64 0] 34) * (HP.pt w.heap.size (.cells #[.int .i64 (a.seq + 1), .int .i64 a.gen, .int .i64 a.lsn, .int .i64 a.seg, .int .i64 a.ext, .int .i64 a.flo, .int .i64 a.new, .int .i64 a.keep, .int .i64 a.next, .int .i64 a.cur] 34) * (HP.disk d B * q))))).right
      have H8 := Aside.mk h8
      clear h7 h8 hcB H6 HQ2 HE k1
      by_cases hc0 : c = 0
      · subst hc0
        have HS2 : Aside (saveP A a = ((a.up, 0), B)) := ⟨by rw [HS.out]; rfl⟩
        have r3 : (loadVar 34 ⟨w.heap.size, 0, none⟩).run Tryd.prog w4 = .ok (.agg (i8s a.up.l).toArray) w4 := run_loadAgg agAnch (cs := i8s a.up.l) rfl (Sat.ptCells (off := 0) H8.out.right rfl)
        clear HS
        have r2 : (storeVar 34 ⟨w.heap.size + 1, 0, none⟩ (.agg (i8s a.up.l).toArray)).run Tryd.prog w4 = .ok () (w4.setRow (w.heap.size + 1) (i8s a.up.l).toArray) := run_storeAgg agAnch (g := w.heap.size + 1) (off := 0) (cs := i8s a.up.l) H8.out.get rfl (by show 0 + 10 ≤ 10; omega) rfl
        have h9 := H8.out.splice (i8s a.up.l)
        have H9 := Aside.mk h9
        clear h9 H8
        generalize World.setRow w4 _ _ = w9 at *
        go_wp2_with (first | (refine wpList_load_run rfl rfl rfl r3 ?_) | (refine wpList_store_run rfl rfl rfl rfl rfl r2 ?_))
        go_wp2
        refine bodyPost_ret (results_cellTmp rfl rfl (run_loadAgg agAnch (cs := i8s a.up.l) rfl (Sat.ptCells (off := 0) H9.out rfl))) rfl ?_
        rw [HS2.out]
        exact ⟨rfl, H9.out.right.right⟩
      · have hcb : (c == 0) = false := by rw [beq_eq_false_iff_ne]; exact hc0
        have HS2 : Aside (saveP A a = ((zeroA, c), B)) := ⟨by rw [HS.out, if_neg hc0]⟩
        clear HS
        have r2 : (storeVar 34 ⟨w.heap.size + 1, 0, none⟩ (.agg (i8s zeroA.l).toArray)).run Tryd.prog w4 = .ok () (w4.setRow (w.heap.size + 1) (i8s zeroA.l).toArray) := run_storeAgg agAnch (g := w.heap.size + 1) (off := 0) (cs := i8s zeroA.l) H8.out.get rfl (by show 0 + 10 ≤ 10; omega) rfl
        have h9 := H8.out.splice (i8s zeroA.l)
        have H9 := Aside.mk h9
        clear h9 H8
        generalize World.setRow w4 _ _ = w9 at *
        go_wp2_with ((refine wpList_store_run rfl rfl rfl rfl rfl r2 ?_))
        go_wp2
        refine bodyPost_ret (results_cellTmp rfl rfl (run_loadAgg agAnch (cs := i8s zeroA.l) rfl (Sat.ptCells (off := 0) H9.out rfl))) rfl ?_
        rw [HS2.out]
        exact ⟨rfl, H9.out.right.right⟩
    · rw [if_neg hc] at h5
      have HS2 : Aside (saveP A a = ((zeroA, 1), A)) := ⟨by rw [HS.out, if_neg (fun h => hc h.2)]⟩
      clear hc HS
      obtain ⟨rfl, h5⟩ := h5
      have H8 := Aside.mk h5.s3
      clear h5
      have r2 : (storeVar 34 ⟨w.heap.size + 1, 0, none⟩ (.agg (i8s zeroA.l).toArray)).run Tryd.prog w3 = .ok () (w3.setRow (w.heap.size + 1) (i8s zeroA.l).toArray) := run_storeAgg agAnch (g := w.heap.size + 1) (off := 0) (cs := i8s zeroA.l) H8.out.get rfl (by show 0 + 10 ≤ 10; omega) rfl
      have h9 := H8.out.splice (i8s zeroA.l)
      have H9 := Aside.mk h9
      clear h9 H8
      generalize World.setRow w3 _ _ = w9 at *
      go_wp2_with ((refine wpList_store_run rfl rfl rfl rfl rfl r2 ?_))
      go_wp2
      refine bodyPost_ret (results_cellTmp rfl rfl (run_loadAgg agAnch (cs := i8s zeroA.l) rfl (Sat.ptCells (off := 0) H9.out rfl))) rfl ?_
      rw [HS2.out]
      exact ⟨rfl, H9.out.right.right⟩
end Go.Proofs.YtanlgadijndmaaaDoor
/- awake of layer 17. -/
namespace Go.Proofs.YtanlgadijndmaaaDoor
open Go.RowKit HP
set_option linter.unusedSimpArgs false
set_option linter.unusedVariables false

set_option maxHeartbeats 2000000 in
set_option maxRecDepth 100000 in
theorem awake17_ok (E : Env) (q : HP) (w : World) (hq : ∀ w, Sat E w q → Quarter w) (hw : Sat E w q) :
    Calls Tryd.prog 22 #[] w fun e w' => e = .returned (.bool true) ∧ Sat E w' q := by
  obtain ⟨B, hB⟩ := saved_end
  have HB := Aside.mk hB
  have HQ := Aside.mk (And.intro hq hw)
  clear hB hq hw
  go_enter Tryd.func22, Tryd.ntmps22
  go_wp2_with fail
  refine (disk_new_ok E q 2 _ ⟨by omega, by omega⟩ HQ.out.2).mono ?_
  rintro e w1 ⟨d, rfl, h1⟩
  have H1 := Aside.mk h1
  clear h1
  go_wp2_with fail
  refine (fresh_ok E _ _ H1.out).mono ?_
  rintro e w2 ⟨rfl, h2⟩
  have H2 := Aside.mk h2
  clear h2 H1
  rw [show freshA.val = .agg #[.int .i64 0, .int .i64 1, .int .i64 0, .int .i64 1, .int .i64 0, .int .i64 (-9223372036854775808), .int .i64 (-9223372036854775808), .int .i64 0, .int .i64 1, .int .i64 0] from rfl]
  go_wp2_with fail
  refine (anchor_save E q d (Dk.new 2) freshA _ (by decide) HQ.out.1 H2.out).mono ?_
  rintro e w3 ⟨rfl, h3⟩
  rw [HB.out.save] at h3 ⊢
  dsimp only at h3 ⊢
  rw [show freshA.up.val = .agg #[.int .i64 1, .int .i64 1, .int .i64 0, .int .i64 1, .int .i64 0, .int .i64 (-9223372036854775808), .int .i64 (-9223372036854775808), .int .i64 0, .int .i64 1, .int .i64 0] from rfl]
  have h4 := h3.alloc (.cells #[.int .i64 1, .int .i64 1, .int .i64 0, .int .i64 1, .int .i64 0, .int .i64 (-9223372036854775808), .int .i64 (-9223372036854775808), .int .i64 0, .int .i64 1, .int .i64 0] 34)
  have H4 : Aside (Sat E (w3.alloc (.cells #[.int .i64 1, .int .i64 1, .int .i64 0, .int .i64 1, .int .i64 0, .int .i64 (-9223372036854775808), .int .i64 (-9223372036854775808), .int .i64 0, .int .i64 1, .int .i64 0] 34)) (HP.disk d B * (HP.pt w3.heap.size (.cells #[.int .i64 1, .int .i64 1, .int .i64 0, .int .i64 1, .int .i64 0, .int .i64 (-9223372036854775808), .int .i64 (-9223372036854775808), .int .i64 0, .int .i64 1, .int .i64 0] 34) * q))) := ⟨h4.perm (by ac_rfl)⟩
  clear h3 h4 H2
  go_wp2_with fail
  refine (anchor_load E _ d B _ HB.out.bytes (fun w h => HQ.out.1 w h.right) H4.out).mono ?_
  rintro e w5 ⟨rfl, h5⟩
  rw [HB.out.load]
  dsimp only
  rw [show freshA.up.val = .agg #[.int .i64 1, .int .i64 1, .int .i64 0, .int .i64 1, .int .i64 0, .int .i64 (-9223372036854775808), .int .i64 (-9223372036854775808), .int .i64 0, .int .i64 1, .int .i64 0] from rfl]
  have h6 := (h5.right.alloc (.cells #[.int .i64 1, .int .i64 1, .int .i64 0, .int .i64 1, .int .i64 0, .int .i64 (-9223372036854775808), .int .i64 (-9223372036854775808), .int .i64 0, .int .i64 1, .int .i64 0] 34)).right
  have k0 := h6.cell 0
  have k1 := h6.cell 1
  have k2 := h6.cell 2
  have k3 := h6.cell 3
  have k4 := h6.cell 4
  have k5 := h6.cell 5
  have k6 := h6.cell 6
  have k7 := h6.cell 7
  have k8 := h6.cell 8
  have k9 := h6.cell 9
  simp only [List.getElem?_toArray, List.getElem?_cons_zero, List.getElem?_cons_succ] at k0 k1 k2 k3 k4 k5 k6 k7 k8 k9
  have H7 := Aside.mk h6
  clear h5 h6 H4
  go_wp2
  go_ret
  exact ⟨rfl, H7.out.right⟩
end Go.Proofs.YtanlgadijndmaaaDoor
/- dryrotref10.Big, Int. -/
namespace Go.Proofs.YtanlgadijndmaaaDoor
open Go.RowKit HP
set_option linter.unusedSimpArgs false
set_option linter.unusedVariables false

set_option maxHeartbeats 1000000 in
set_option maxRecDepth 100000 in
theorem big_ok (E : Env) (q : HP) (n : Int) (w : World) (hw : Sat E w q) :
    Calls Tryd.prog 74 #[.int .i64 n] w fun e w' => ∃ g, e = .returned (.slice (some ⟨g, 0, none⟩) 8 8) ∧ Sat E w' (HP.row 5 1 (.slice (some ⟨g, 0, none⟩) 8 8) 8 (b8s (putI (n64 n) 8)) * q) := by
  have hwr := n64_wrap n
  have HN := Aside.mk (n64_lt n)
  have HW := Aside.mk hw
  obtain ⟨m, hm⟩ : ∃ m, m = n64 n := ⟨_, rfl⟩
  rw [← hm] at hwr HN ⊢
  clear hm hw
  go_enter Tryd.func74, Tryd.ntmps74
  go_wp2_with fail
  refine (ref_put E _ m 8 _ (by omega) HN.out HW.out).mono ?_
  rintro e w4 ⟨g, rfl, h4⟩
  go_wp2
  go_ret
  exact ⟨g, rfl, h4⟩
end Go.Proofs.YtanlgadijndmaaaDoor
/- dryrotref17.Can. -/
namespace Go.Proofs.YtanlgadijndmaaaDoor
open Go.RowKit HP
set_option linter.unusedSimpArgs false
set_option linter.unusedVariables false

set_option maxHeartbeats 4000000 in
set_option maxRecDepth 100000 in
theorem refcan_ok (E : Env) (q : HP) (a : Anch) (w : World) (hw : Sat E w q) :
    Calls Tryd.prog 73 #[.agg #[.int .i64 a.seq, .int .i64 a.gen, .int .i64 a.lsn, .int .i64 a.seg, .int .i64 a.ext, .int .i64 a.flo, .int .i64 a.new, .int .i64 a.keep, .int .i64 a.next, .int .i64 a.cur]] w fun e w' => e = .returned (.bool (canA a)) ∧ Sat E w' q := by
  have h1 := (hw.alloc (.cells #[.int .i64 a.seq, .int .i64 a.gen, .int .i64 a.lsn, .int .i64 a.seg, .int .i64 a.ext, .int .i64 a.flo, .int .i64 a.new, .int .i64 a.keep, .int .i64 a.next, .int .i64 a.cur] 34))
  have h2 := h1.alloc (.cells (i8s [a.seq, a.gen, a.seg, a.next]).toArray 3)
  have hz : (w.alloc (.cells #[.int .i64 a.seq, .int .i64 a.gen, .int .i64 a.lsn, .int .i64 a.seg, .int .i64 a.ext, .int .i64 a.flo, .int .i64 a.new, .int .i64 a.keep, .int .i64 a.next, .int .i64 a.cur] 34)).heap.size = w.heap.size + 1 := by simp
  rw [hz] at h2
  have H2 := Aside.mk h2
  have HC : Aside (canA a = (btw 1 [a.seq, a.gen, a.seg, a.next] && btw 0 [a.lsn, a.ext, a.keep, a.cur])) := ⟨rfl⟩
  clear hw h1 h2 hz
  go_enter Tryd.func73, Tryd.ntmps73
  go_wp2
  go_loopw [17] (fun v17 wr => ∃ k : Nat, k ≤ 4 ∧ v17 = .int .i64 k ∧ Aside (btw 1 ([a.seq, a.gen, a.seg, a.next].take k) = true) ∧ Aside (Sat E wr (HP.pt (w.heap.size + 1) (.cells (i8s [a.seq, a.gen, a.seg, a.next]).toArray 3) * (HP.pt w.heap.size (.cells #[.int .i64 a.seq, .int .i64 a.gen, .int .i64 a.lsn, .int .i64 a.seg, .int .i64 a.ext, .int .i64 a.flo, .int .i64 a.new, .int .i64 a.keep, .int .i64 a.next, .int .i64 a.cur] 34) * q)))) (fun i _ => 4 - (intOf i).toNat)
  case atStart => exact ⟨0, by omega, rfl, ⟨rfl⟩, H2⟩
  case round =>
    obtain ⟨k, hk, rfl, HB, HS⟩ := hrel
    by_cases hlt : k < 4
    · have hlt2 : (k : Int) < 4 := by omega
      obtain ⟨x, hx⟩ : ∃ x, [a.seq, a.gen, a.seg, a.next][k]? = some x := ⟨_, List.getElem?_eq_getElem (show k < 4 from hlt)⟩
      have gx : wr.cell? ⟨(w.heap.size + 1), k, none⟩ = some (.int .i64 x) := by
        have := (Sat.ptCells (off := 0) (l := i8s [a.seq, a.gen, a.seg, a.next]) HS.out rfl).some_ k (.int .i64 x) (by unfold i8s; rw [List.getElem?_map, hx]; rfl)
        rw [addr_add, Nat.zero_add] at this
        exact this
      have HX := Aside.mk hx
      clear hx
      by_cases h1 : x < 1
      · have HN : Aside (btw 1 [a.seq, a.gen, a.seg, a.next] = false) := ⟨btw_bad HX.out (by unfold nOk; rw [decide_eq_false (by omega)]; rfl)⟩
        go_wp2
        go_ret
        rw [HC.out, HN.out]
        exact ⟨rfl, HS.out.right.right⟩
      · by_cases h2 : 4611686018427387904 < x
        · have HN : Aside (btw 1 [a.seq, a.gen, a.seg, a.next] = false) := ⟨btw_bad HX.out (by unfold nOk; rw [decide_eq_true (by omega), decide_eq_false (by omega)]; rfl)⟩
          go_wp2
          go_ret
          rw [HC.out, HN.out]
          exact ⟨rfl, HS.out.right.right⟩
        · have HN : Aside (btw 1 ([a.seq, a.gen, a.seg, a.next].take (k + 1)) = true) := ⟨by rw [btw_take HX.out, HB.out]; unfold nOk; rw [decide_eq_true (by omega), decide_eq_true (by omega)]; rfl⟩
          go_wp2
          go_roundw
          case rel => exact ⟨k + 1, by omega, by push_cast; rfl, HN, HS⟩
          case measure => simp [intOf]; omega
    · obtain rfl : k = 4 := by omega
      have HN : Aside (btw 1 [a.seq, a.gen, a.seg, a.next] = true) := ⟨HB.out⟩
      have HN1 : Aside (btw 1 [a.seq, a.gen, a.seg, a.next] = true) := HN
      clear HN HB
      have h2 := HS.out.right
      have k0 := h2.cell 2
      have k1 := h2.cell 4
      have k2 := h2.cell 7
      have k3 := h2.cell 9
      simp only [List.getElem?_toArray, List.getElem?_cons_zero, List.getElem?_cons_succ] at k0 k1 k2 k3
      have H3 := Aside.mk (h2.alloc (.cells (i8s [a.lsn, a.ext, a.keep, a.cur]).toArray 3))
      clear h2
      obtain ⟨b2, hb2⟩ : ∃ b, b = wr.heap.size := ⟨_, rfl⟩
      rw [← hb2] at H3
      go_wp2
      rw [← hb2]
      clear hb2 k0 k1 k2 k3
      go_loopw [38] (fun v38 wr => ∃ k : Nat, k ≤ 4 ∧ v38 = .int .i64 k ∧ Aside (btw 0 ([a.lsn, a.ext, a.keep, a.cur].take k) = true) ∧ Aside (Sat E wr (HP.pt b2 (.cells (i8s [a.lsn, a.ext, a.keep, a.cur]).toArray 3) * (HP.pt w.heap.size (.cells #[.int .i64 a.seq, .int .i64 a.gen, .int .i64 a.lsn, .int .i64 a.seg, .int .i64 a.ext, .int .i64 a.flo, .int .i64 a.new, .int .i64 a.keep, .int .i64 a.next, .int .i64 a.cur] 34) * q)))) (fun i _ => 4 - (intOf i).toNat)
      case atStart => exact ⟨0, by omega, rfl, ⟨rfl⟩, H3⟩
      case round =>
        obtain ⟨k, hk, rfl, HB, HS⟩ := hrel
        by_cases hlt : k < 4
        · have hlt2 : (k : Int) < 4 := by omega
          obtain ⟨x, hx⟩ : ∃ x, [a.lsn, a.ext, a.keep, a.cur][k]? = some x := ⟨_, List.getElem?_eq_getElem (show k < 4 from hlt)⟩
          have gx : wr.cell? ⟨b2, k, none⟩ = some (.int .i64 x) := by
            have := (Sat.ptCells (off := 0) (l := i8s [a.lsn, a.ext, a.keep, a.cur]) HS.out rfl).some_ k (.int .i64 x) (by unfold i8s; rw [List.getElem?_map, hx]; rfl)
            rw [addr_add, Nat.zero_add] at this
            exact this
          have HX := Aside.mk hx
          clear hx
          by_cases h1 : x < 0
          · have HN : Aside (btw 0 [a.lsn, a.ext, a.keep, a.cur] = false) := ⟨btw_bad HX.out (by unfold nOk; rw [decide_eq_false (by omega)]; rfl)⟩
            go_wp2
            go_ret
            rw [HC.out, HN.out]
            exact ⟨by rw [HN1.out]; rfl, HS.out.right.right⟩
          · by_cases h2 : 4611686018427387904 < x
            · have HN : Aside (btw 0 [a.lsn, a.ext, a.keep, a.cur] = false) := ⟨btw_bad HX.out (by unfold nOk; rw [decide_eq_true (by omega), decide_eq_false (by omega)]; rfl)⟩
              go_wp2
              go_ret
              rw [HC.out, HN.out]
              exact ⟨by rw [HN1.out]; rfl, HS.out.right.right⟩
            · have HN : Aside (btw 0 ([a.lsn, a.ext, a.keep, a.cur].take (k + 1)) = true) := ⟨by rw [btw_take HX.out, HB.out]; unfold nOk; rw [decide_eq_true (by omega), decide_eq_true (by omega)]; rfl⟩
              go_wp2
              go_roundw
              case rel => exact ⟨k + 1, by omega, by push_cast; rfl, HN, HS⟩
              case measure => simp [intOf]; omega
        · obtain rfl : k = 4 := by omega
          have HN : Aside (btw 0 [a.lsn, a.ext, a.keep, a.cur] = true) := ⟨HB.out⟩
          go_wp2
          go_ret
          rw [HC.out, HN.out, HN1.out]
          exact ⟨rfl, HS.out.right.right⟩
end Go.Proofs.YtanlgadijndmaaaDoor
/- dryrotref17.Encode. -/
namespace Go.Proofs.YtanlgadijndmaaaDoor
open Go.RowKit HP
set_option linter.unusedSimpArgs false
set_option linter.unusedVariables false

set_option maxHeartbeats 2000000 in
set_option maxRecDepth 100000 in
theorem refenc_ok (E : Env) (q : HP) (a : Anch) (w : World) (hw : Sat E w q) :
    Calls Tryd.prog 21 #[.agg #[.int .i64 a.seq, .int .i64 a.gen, .int .i64 a.lsn, .int .i64 a.seg, .int .i64 a.ext, .int .i64 a.flo, .int .i64 a.new, .int .i64 a.keep, .int .i64 a.next, .int .i64 a.cur]] w (encEnd E q a) := by
  have H1 := Aside.mk (hw.alloc (.cells #[.int .i64 a.seq, .int .i64 a.gen, .int .i64 a.lsn, .int .i64 a.seg, .int .i64 a.ext, .int .i64 a.flo, .int .i64 a.new, .int .i64 a.keep, .int .i64 a.next, .int .i64 a.cur] 34))
  clear hw
  go_enter Tryd.func21, Tryd.ntmps21
  go_wp2_with fail
  refine (refcan_ok E _ a _ H1.out).mono ?_
  rintro e w1 ⟨rfl, h2⟩
  have H2 := Aside.mk h2
  clear h2 H1
  obtain ⟨cb, hcb⟩ : ∃ cb, cb = canA a := ⟨_, rfl⟩
  rw [← hcb]
  have HC := Aside.mk hcb
  clear hcb
  cases cb with
  | false =>
    go_wp2
    go_ret2
    exact encEnd_no HC.out.symm rfl H2.out.right
  | true =>
    have k0 := H2.out.cell 0
    have k1 := H2.out.cell 1
    have k2 := H2.out.cell 2
    have k3 := H2.out.cell 3
    have k4 := H2.out.cell 4
    have k5 := H2.out.cell 5
    have k6 := H2.out.cell 6
    have k7 := H2.out.cell 7
    have k8 := H2.out.cell 8
    have k9 := H2.out.cell 9
    simp only [List.getElem?_toArray, List.getElem?_cons_zero, List.getElem?_cons_succ] at k0 k1 k2 k3 k4 k5 k6 k7 k8 k9
    have H3 := Aside.mk ((H2.out.right.alloc (.cells (i8s a.l).toArray 3)).row_nil 5 1 none)
    obtain ⟨bl, hbl⟩ : ∃ x, x = w1.heap.size := ⟨_, rfl⟩
    rw [← hbl] at H3
    go_wp2
    rw [← hbl]
    clear hbl
    go_loopw [4, 32] (fun v4 v32 wr => ∃ k : Nat, k ≤ 10 ∧ v32 = .int .i64 k ∧ Aside (Sat E wr (HP.row 5 1 v4 (8 * k) (b8s (encI (a.l.take k))) * (HP.pt bl (.cells (i8s a.l).toArray 3) * q)))) (fun _ i _ => 10 - (intOf i).toNat)
    case atStart => exact ⟨0, by omega, rfl, H3⟩
    case round =>
      obtain ⟨k, hk, rfl, HS⟩ := hrel
      clear k0 k1 k2 k3 k4 k5 k6 k7 k8 k9 H3 H2
      by_cases hlt : k < 10
      · obtain ⟨x, hx⟩ : ∃ x, a.l[k]? = some x := ⟨_, List.getElem?_eq_getElem (show k < 10 from hlt)⟩
        have gx : wr.cell? ⟨bl, k, none⟩ = some (.int .i64 x) := by
          have := (Sat.ptCells (off := 0) (l := i8s a.l) HS.out.right rfl).some_ k (.int .i64 x) (by unfold i8s; rw [List.getElem?_map, hx]; rfl)
          rw [addr_add, Nat.zero_add] at this
          exact this
        have HX := Aside.mk (encI_take hx)
        have hlt2 : (k : Int) < 10 := by omega
        clear hx
        go_wp2_with fail
        refine (big_ok E _ x _ HS.out).mono ?_
        rintro e w4 ⟨g, rfl, h4⟩
        have h5 := h4.s2
        obtain ⟨ol, hol⟩ : ∃ ol, ol = 8 * k := ⟨_, rfl⟩
        rw [← hol] at h5
        have ho : ol ≤ 80 := by omega
        have H5 := Aside.mk (And.intro h5 (And.intro h4.row_cells (show (b8s (putI (n64 x) 8)).length = 8 * 1 by rw [b8s_length, putI_length])))
        have HO := Aside.mk hol
        clear h4 h5 hol gx
        go_wp2_with (at_builtin; refine wpList_append_row slB8 rfl rfl (by rfl) (by rfl) H5.out.1 H5.out.2.1 H5.out.2.2 (b8s_one _) (by unfold maxLen; omega) (by omega) (fun v5 w5 hw5 => ?_); obtain ⟨A5, c5, rfl, -, -⟩ := hw5.row_slice; have HW5 := Aside.mk hw5; clear hw5)
        have H6 : Aside (Sat E w5 (HP.row 5 1 (.slice A5 (ol + 8) c5) (8 * (k + 1)) (b8s (encI (a.l.take (k + 1)))) * (HP.pt bl (.cells (i8s a.l).toArray 3) * q))) := ⟨by
          rw [HX.out, b8s_append, show 8 * (k + 1) = ol + 8 by have := HO.out; omega]
          exact HW5.out.drop2⟩
        clear HW5 H5
        go_wp2
        go_roundw
        case rel => exact ⟨k + 1, by omega, by push_cast; rfl, H6⟩
        case measure => simp [intOf]; omega
      · obtain rfl : k = 10 := by omega
        have H7 : Aside (Sat E wr (HP.row 5 1 u4 80 (b8s (encI a.l)) * q)) := ⟨HS.out.drop2⟩
        clear HS
        go_wp2
        go_ret2
        exact encEnd_yes HC.out.symm rfl H7.out
end Go.Proofs.YtanlgadijndmaaaDoor
/- What a copy of a disk has, so far: plain. -/
namespace Go.Proofs.YtanlgadijndmaaaDoor
open Go.RowKit HP
set_option linter.unusedSimpArgs false
set_option linter.unusedVariables false

def leftN (L : List (MapEntry × Fil)) : Nat := (L.map fun x => x.2.cels.length).sum
structure Copied (A O : Dk) (L : List (MapEntry × Fil)) : Prop where
  room : O.room = A.room
  fuse : O.fuse = A.fuse
  sorted : Sorted O.files
  hit : ∀ x ∈ L, lk O.files x.2.name = none
  rest : ∀ s, (∀ x ∈ L, x.2.name ≠ s) → lk O.files s = lk A.files s
  size : sizeF O.files + leftN L = sizeF A.files
def copyK (O : Dk) (s : ByteArray) (l : List Cel) (k : Nat) : Dk := if k = 0 then O else O.set s (l.take k)
theorem leftZ_names {es : Array MapEntry} {seen : Array Nat} {fs : List Fil} (hn : (fs.map (·.name)).Nodup) (hl : es.toList.length = fs.length) : ((leftZ es seen fs).map fun x => x.2.name).Nodup := by
  have h1 : (leftZ es seen fs).Sublist (es.toList.zip fs) := List.filter_sublist
  have h2 := (h1.map fun x => x.2.name)
  have e : ((es.toList.zip fs).map fun x => x.2.name) = fs.map (·.name) := by
    rw [show (fun x : MapEntry × Fil => x.2.name) = (fun x : Fil => x.name) ∘ Prod.snd from rfl, ← List.map_map, List.map_snd_zip (by omega)]
  rw [e] at h2
  exact hn.sublist h2
theorem copied_start {A : Dk} {es : Array MapEntry} {clock : Nat} {fs : List Fil} (hv : View A es clock fs) : Copied A ⟨A.room, A.fuse, []⟩ (leftZ es #[] fs) := by
  have hlen : es.toList.length = fs.length := by simpa using congrArg List.length hv.map.2.1
  have hm := leftZ_start hlen
  refine ⟨rfl, rfl, List.Pairwise.nil, fun _ _ => rfl, fun s hs => ?_, ?_⟩
  · rw [← hv.same]
    unfold lkF
    rw [List.find?_eq_none.2 (fun f hf => ?_)]
    · rfl
    · rw [← hm] at hf
      obtain ⟨x, hx, rfl⟩ := List.mem_map.1 hf
      simpa using hs x hx
  · have e : sortF fs = A.files := sorted_ext (sortF_sorted fs) hv.fine.sorted fun s => by rw [sortF_lk, hv.same]
    have h2 := sortF_size hv.map.2.2.1
    rw [e] at h2
    have h3 : leftN (leftZ es #[] fs) = total fs := by
      unfold leftN total
      conv => rhs; rw [← hm]
      rw [List.map_map]
      rfl
    rw [h3, h2]
    show 0 + _ = _
    omega
theorem copied_end {A O : Dk} (h : Copied A O []) (hs : Sorted A.files) : O = A := by
  obtain ⟨r, f, fs⟩ := O
  obtain ⟨r2, f2, fs2⟩ := A
  obtain ⟨h1, h2, h3, -, h5, -⟩ := h
  simp only at h1 h2 h3 h5 hs
  subst h1
  subst h2
  rw [sorted_ext h3 hs (fun s => h5 s (by simp))]
theorem set_set {O : Dk} (hs : Sorted O.files) (s : ByteArray) (l l' : List Cel) : (O.set s l).set s l' = O.set s l' := by
  unfold Dk.set
  simp only [Dk.mk.injEq, true_and]
  refine sorted_ext (sorted_put _ _ (sorted_put _ _ hs)) (sorted_put _ _ hs) fun t => ?_
  rw [lk_put _ _ _ (sorted_put _ _ hs), lk_put _ _ _ hs, lk_put _ _ _ hs]
  split <;> rfl
structure CopyAt (A O : Dk) (s : ByteArray) (l : List Cel) (k : Nat) : Prop where
  at_ : (copyK O s l k).at s = l.take k
  free : k < l.length → 0 < (copyK O s l k).free
  room : (copyK O s l k).room = A.room
  next : ∀ c, l[k]? = some c → (copyK O s l k).set s ((copyK O s l k).at s ++ [c]) = copyK O s l (k + 1)
theorem copyAt {A O : Dk} {e : MapEntry} {f : Fil} {L L' : List (MapEntry × Fil)} (hA : (sizeF A.files : Int) ≤ A.room) (h : Copied A O L) (hp : L.Perm ((e, f) :: L')) {k : Nat} (hk : k ≤ f.cs.length) : CopyAt A O f.name f.cs k := by
  have hno : lk O.files f.name = none := h.hit (e, f) (hp.symm.subset (List.mem_cons_self ..))
  have hat0 : O.at f.name = [] := by unfold Dk.at; rw [hno]; rfl
  have hsz : sizeF O.files + f.cs.length ≤ sizeF A.files := by
    have h1 := h.size
    have h2 : leftN L = f.cels.length + leftN L' := by
      unfold leftN
      rw [(hp.map fun x => x.2.cels.length).sum_nat, List.map_cons, List.sum_cons]
    have h3 : f.cs.length = f.cels.length := by unfold Fil.cs; rw [List.length_map]
    omega
  have hat : (copyK O f.name f.cs k).at f.name = f.cs.take k := by
    unfold copyK
    split
    · rename_i h0
      subst h0
      rw [hat0, List.take_zero]
    · rw [at_set h.sorted, if_pos rfl]
  refine ⟨hat, fun hlt => ?_, ?_, fun c hc => ?_⟩
  · have hr := h.room
    unfold copyK Dk.free
    split
    · omega
    · rename_i h0
      have h2 := sizeF_put h.sorted f.name (f.cs.take k)
      rw [hno] at h2
      simp only [Option.getD_none, List.length_nil, List.length_take] at h2
      show 0 < O.room - (sizeF (putF O.files f.name (f.cs.take k)) : Int)
      omega
  · unfold copyK
    split
    · exact h.room
    · exact h.room
  · rw [hat]
    have ht : f.cs.take k ++ [c] = f.cs.take (k + 1) := by
      rw [List.take_add_one, hc]
      rfl
    rw [ht]
    unfold copyK
    rw [if_neg (show ¬ k + 1 = 0 by omega)]
    split
    · rfl
    · exact set_set h.sorted _ _ _
theorem copied_step {A O : Dk} {e : MapEntry} {f : Fil} {L L' : List (MapEntry × Fil)} (h : Copied A O L) (hp : L.Perm ((e, f) :: L')) (hn : (L.map fun x => x.2.name).Nodup) (hf : lk A.files f.name = some f.cs) (h0 : f.cs ≠ []) : Copied A (copyK O f.name f.cs f.cs.length) L' := by
  have hno : lk O.files f.name = none := h.hit (e, f) (hp.symm.subset (List.mem_cons_self ..))
  have hlen : ¬ f.cs.length = 0 := fun h => h0 (List.eq_nil_of_length_eq_zero h)
  have hc : copyK O f.name f.cs f.cs.length = O.set f.name f.cs := by
    unfold copyK
    rw [if_neg hlen, List.take_length]
  have hnd : (((e, f) :: L').map fun x => x.2.name).Nodup := (hp.map fun x => x.2.name).nodup hn
  rw [List.map_cons, List.nodup_cons] at hnd
  rw [hc]
  refine ⟨h.room, h.fuse, sorted_put _ _ h.sorted, fun x hx => ?_, fun s hs => ?_, ?_⟩
  · have hne : f.name ≠ x.2.name := fun he => hnd.1 (List.mem_map.2 ⟨x, hx, he.symm⟩)
    rw [lk_set h.sorted, if_neg hne]
    exact h.hit x (hp.symm.subset (List.mem_cons_of_mem _ hx))
  · rw [lk_set h.sorted]
    split
    · rename_i he
      subst he
      exact hf.symm
    · rename_i hne
      refine h.rest s fun x hx => ?_
      rcases List.mem_cons.1 (hp.subset hx) with rfl | hx2
      · exact hne
      · exact hs x hx2
  · have h1 := h.size
    have h2 : leftN L = f.cels.length + leftN L' := by
      unfold leftN
      rw [(hp.map fun x => x.2.cels.length).sum_nat, List.map_cons, List.sum_cons]
    have h3 : f.cs.length = f.cels.length := by unfold Fil.cs; rw [List.length_map]
    have h4 := sizeF_put h.sorted f.name f.cs
    rw [hno] at h4
    simp only [Option.getD_none, List.length_nil] at h4
    show sizeF (putF O.files f.name f.cs) + leftN L' = _
    omega
end Go.Proofs.YtanlgadijndmaaaDoor
/- A disk's file taken out, what lies beside left open. -/
namespace Go.Proofs.YtanlgadijndmaaaDoor
open Go.RowKit HP
set_option linter.unusedSimpArgs false
set_option linter.unusedVariables false

/-- The file at a place, and what becomes of the disk when its extents are laid anew. -/
theorem dk_fileQ {E : Env} {q : HP} {w : World} {d m : Nat} {room fuse : Int} {es : Array MapEntry} {clock : Nat} {fs : List Fil} (hw : Sat E w (HP.dk d room fuse m es clock fs * q)) {j : Nat} {f : Fil} (hj : fs[j]? = some f) :
    ∃ R0 : HP, Sat E w (HP.row 121 1 f.val f.cels.length (celPtrs f.cels) * (HP.cels f.cels * (R0 * q))) ∧
      ∀ (q' : HP) (w' : World) (cels' : List (Nat × Cel)), cels'.map (·.1) = f.cels.map (·.1) → Sat E w' (HP.row 121 1 f.val f.cels.length (celPtrs f.cels) * (HP.cels cels' * (R0 * q'))) →
        Sat E w' (HP.dk d room fuse m es clock (fs.set j ⟨f.name, f.val, cels'⟩) * q') := by
  have h1 := dk_parts hw
  have h2 : Sat E w (HP.all (fs.map HP.fil) * (HP.dsk d room fuse m * (HP.pt m (.map es clock) * q))) := h1.perm (by ac_rfl)
  rw [all_take (l := fs.map HP.fil) (j := j) (p := HP.fil f) (by rw [List.getElem?_map, hj]; rfl)] at h2
  refine ⟨HP.all ((fs.map HP.fil).eraseIdx j) * (HP.dsk d room fuse m * HP.pt m (.map es clock)), h2.perm (by unfold HP.fil HP.cels Fil.ptrs celPtrs; ac_rfl), fun q' w' cels' hfst h => ?_⟩
  have hjl : j < fs.length := (List.getElem?_eq_some_iff.1 hj).1
  have hlen : cels'.length = f.cels.length := by simpa using congrArg List.length hfst
  unfold HP.dk
  rw [all_take (l := (fs.set j (⟨f.name, f.val, cels'⟩ : Fil)).map HP.fil) (j := j) (p := HP.fil ⟨f.name, f.val, cels'⟩) (by rw [List.getElem?_map, List.getElem?_set]; simp [hjl])]
  rw [List.map_set, List.eraseIdx_set_eq]
  have hp : (⟨f.name, f.val, cels'⟩ : Fil).ptrs = celPtrs f.cels := by
    show cels'.map (fun x => Value.pointer (some ⟨x.1, 0, none⟩)) = _
    unfold celPtrs
    have := congrArg (List.map fun b : Nat => Value.pointer (some ⟨b, 0, none⟩)) hfst
    simpa [List.map_map, Function.comp_def] using this
  have e1 : HP.fil ⟨f.name, f.val, cels'⟩ = HP.row 121 1 f.val f.cels.length (celPtrs f.cels) * HP.cels cels' := by
    unfold HP.fil HP.cels
    rw [hp]
    show HP.row 121 1 f.val cels'.length _ * _ = _
    rw [hlen]
  rw [e1]
  exact h.perm (by ac_rfl)

theorem cel_whole {E : Env} {q : HP} {w : World} {b : Nat} {c : Cel} (h : Sat E w (HP.cel b c * q)) : Cells w (some ⟨b, 0, none⟩) c.vals := fun j u hj => ⟨_, rfl, by
  rw [addr_add, Nat.zero_add]
  have h1 : Sat E w (HP.pt b (.cells c.vals.toArray 125) * q) := h
  rw [h1.cell]
  simpa using hj⟩
end Go.Proofs.YtanlgadijndmaaaDoor
/- append as an operation of a region. -/
namespace Go.Proofs.YtanlgadijndmaaaDoor
open Go.RowKit HP
set_option linter.unusedSimpArgs false
set_option linter.unusedVariables false

section
variable {E : Env} {w : World} {q : HP} {e : TypeId} {size n : Nat} {v : Value} {cs : List Value}
theorem wp_append_row {P : Program} {o : Oper} {a : Act} {K : Act → World → Prop} {Q : Exit → Act → World → Prop} {s x : Operand} {t : TypeId} {z : Value} {bytes : Nat}
    (T : SlTy P t e z size bytes)
    (ho : o.op = .call { callee := .builtin .append, args := #[s, x], argTypes := #[t, t] })
    {A : Option Addr} {m c : Nat} {news : List Value} (hs : a.eval s = v) (hx : a.eval x = .slice A m c)
    (h : Sat E w (row e size v n cs * q)) (hnews : Cells w A news) (hl : news.length = m * size) (h1 : news.all Value.oneCell' = true)
    (h63 : n + m ≤ maxLen) (hbytes : (n + m) * bytes ≤ 140737488355328)
    (hk : ∀ v' w', Sat E w' (row e size v' (n + m) (cs ++ news) * q) → K (a.put o.dst v') w') : o.wp P a w K Q := by
  obtain ⟨i, hi, hz, hsize, hby⟩ := info_parts T.info
  obtain ⟨v', w', hr, h2⟩ := run_append_row (P := P) (ty := o.type) T.under hi hz hsize hby T.cells h A m c news hl hnews (List.all_eq_true.1 h1) h63 hbytes (fun _ => T.pos)
  unfold Oper.wp execOp
  simp only [ho, resolve, invoke, builtin, Sem.run_bind, Sem.run_pure, Result.andThen_ok, List.map_toArray, List.map_cons, List.map_nil, hs, hx, hr]
  exact hk v' w' h2
end
end Go.Proofs.YtanlgadijndmaaaDoor
