/- Texts of one claim, one behind the other: RefB3, LeftZ, RegM, WpA, FileQ, Rc1P, Rc1, Ref1, Rc4, Rc4O, RdO, MendP, StAw, BClone, Full, RdZ, Laid, Tied. -/
import Derived.Test.YtnpinegpajbkeaaGreatDoorLv7
import Derived.Laws.Bits64
import Derived.Laws.BytesString
import Derived.Lib.SlBytesConst
import Derived.Lib.SliceRun
import Derived.LaidMore
import Derived.Stop.Joined
set_option linter.unusedSimpArgs false
set_option linter.unusedVariables false
namespace Go.Proofs.YtnpinegpajbkeaaGreatDoor
open Go.RowKit HP
set_option maxHeartbeats 2000000 in
set_option maxRecDepth 100000 in
theorem ref_isName (s : ByteArray) (w : World) (hs : s.size ≤ maxLen) :
    Calls Tryz.prog 117 #[.string s] w fun e w' => e = .returned (.bool (namedB s)) ∧ w' = w := by
  obtain ⟨R, hR⟩ : ∃ R, R = namedB s := ⟨_, rfl⟩
  have HR : Aside (R = (decide (1 ≤ s.size) && decide (s.size ≤ 24) && !s.data.toList.any strangeC)) := ⟨by rw [hR, named_bytes]⟩
  rw [← hR]
  clear hR
  have hd : s.data.toList.length = s.size := by rw [Array.length_toList]; rfl
  have HD := Aside.mk hd
  unfold maxLen at hs
  clear hd
  go_enter Tryz.func117, Tryz.ntmps117
  go_wp2
  go_loopw [3] (fun v3 wr => ∃ k : Nat, k ≤ s.size ∧ v3 = .int .i64 k ∧ Aside ((s.data.toList.take k).any strangeC = false) ∧ wr = w) (fun i _ => s.size - (intOf i).toNat)
  case atStart => exact ⟨0, Nat.zero_le _, rfl, ⟨by simp⟩, rfl⟩
  case round =>
    obtain ⟨k, hk, rfl, HS, rfl⟩ := hrel
    by_cases hlt : k < s.size
    · have hlt2 : (k : Int) < (s.size : Int) := by omega
      have h0 : (0 : Int) ≤ (k : Int) := by omega
      have hsk : s.data.toList.take (k + 1) = s.data.toList.take k ++ [s[k]] := by
        rw [List.take_succ_eq_append_getElem (by rw [HD.out]; exact hlt)]
        rfl
      have HSK := Aside.mk hsk
      clear hsk
      go_wp2
      all_goals first
        | (refine ⟨⟨k + 1, by omega, by go_num, ⟨?_⟩, trivial⟩, by simp [intOf]; omega⟩
           rw [HSK.out, List.any_append, HS.out]
           have hst : strangeC s[k] = false := by
             unfold strangeC strangeB
             simp_all
             try omega
           simp [hst])
        | (go_ret
           refine ⟨?_, rfl⟩
           have hst : strangeC s[k] = true := by
             unfold strangeC strangeB
             simp_all
             try omega
           have hany : s.data.toList.any strangeC = true := by
             rw [← List.take_append_drop (k + 1) s.data.toList, HSK.out]
             simp [hst]
           rw [HR.out, hany]
           simp)
    · obtain rfl : k = s.size := by omega
      have hall : s.data.toList.any strangeC = false := by
        have h := HS.out
        rwa [List.take_of_length_le (by rw [HD.out]; exact Nat.le_refl _)] at h
      have HA := Aside.mk hall
      clear hall
      go_wp2
      all_goals
        go_ret
        refine ⟨?_, rfl⟩
        rw [HR.out, HA.out]
        first
          | (have h1 : 1 ≤ s.size := by omega
             have h1' : (1 : Int) ≤ (s.size : Int) := by omega
             by_cases h24 : s.size ≤ 24
             · have h24' : (s.size : Int) ≤ 24 := by omega
               simp [h1, h24, h24', h1']
             · have h24' : ¬ (s.size : Int) ≤ 24 := by omega
               simp [h1, h24, h24', h1'])
          | (have h1 : ¬ 1 ≤ s.size := by omega
             simp [h1])
set_option maxHeartbeats 1000000 in
set_option maxRecDepth 100000 in
theorem ref_new (E : Env) (q : HP) (room : Int) (w : World) (h : 0 ≤ room ∧ room ≤ 100000) (hw : Sat E w q) :
    Calls Tryz.prog 40 #[.int .i64 room] w fun e w' => ∃ y, e = .returned (.tuple #[.pointer (some ⟨y, 0, none⟩), .int .i64 0]) ∧ Sat E w' (HP.rdisk y (Dk.new room) * q) := by
  obtain ⟨h0, h1⟩ := h
  have hb := hw.alloc (.cells #[.int .i64 room, .slice none 0 0, .int .i64 (-1)] 158)
  have HB := Aside.mk hb
  have HR := Aside.mk (And.intro h0 h1)
  clear hb hw
  go_enter Tryz.func40, Tryz.ntmps40
  go_wp2
  go_ret2
  refine ⟨w.heap.size, rfl, ?_⟩
  have h2 := HB.out.row_nil 174 2 none
  refine Sat.rdisk_close (v := .slice none 0 0) (fs := []) (L := []) ⟨rfl, (fun f hf => by cases hf), Dk.new_fine HR.out⟩ (Sat.rdk_join ?_)
  refine h2.perm ?_
  show HP.row _ 2 _ 0 [] * (HP.pt _ _ * q) = HP.pt _ _ * (HP.row _ 2 _ 0 [] * (HP.emp * (HP.emp * q)))
  rw [HP.emp_mul, HP.emp_mul]
  ac_rfl
theorem ref_stops (E : Env) (q : HP) (y : Nat) (A : Dk) (v : Value) (fs : List RF) (L : List (Value × List Int)) (w : World) (hf : -1 ≤ A.fuse ∧ A.fuse ≤ 9223372036854775807) (hw : Sat E w (HP.rdk y A.room A.fuse v fs L * q)) :
    Calls Tryz.prog 118 #[.pointer (some ⟨y, 0, none⟩)] w fun e w' => e = .returned (.bool (!A.goes)) ∧ Sat E w' (HP.rdk y A.room A.burnt.fuse v fs L * q) := by
  have hp := hw.rdk_parts
  have c2 := hp.cell 2
  have z2 := hp.thaw 2
  have HP := Aside.mk hp
  simp only [List.getElem?_toArray, List.getElem?_cons_zero, List.getElem?_cons_succ] at c2
  clear hw hp
  go_enter Tryz.func118, Tryz.ntmps118
  by_cases h0 : A.fuse = 0
  · have hg : A.goes = false := by unfold Dk.goes burnI; simp [h0]
    have hb : A.burnt.fuse = A.fuse := by unfold Dk.burnt burnI; simp [h0]
    rw [hg, hb]
    rw [h0] at c2
    clear hg hb h0
    go_wp2
    go_ret
    exact ⟨rfl, HP.out.rdk_join⟩
  · by_cases h1 : 0 < A.fuse
    · have hg : A.goes = true := by unfold Dk.goes burnI; simp [h1]
      have hb : A.burnt.fuse = A.fuse - 1 := by unfold Dk.burnt burnI; simp [h1]
      rw [hg, hb]
      clear hg hb
      obtain ⟨fu, hfu⟩ : ∃ fu, fu = A.fuse := ⟨_, rfl⟩
      rw [← hfu] at c2 h0 h1 hf ⊢
      have HF := Aside.mk hfu
      clear hfu
      have hs := HP.out.set (i := 2) (.int .i64 (fu - 1))
      simp only [List.setIfInBounds_toArray, List.set_cons_zero, List.set_cons_succ] at hs
      have HS := Aside.mk hs
      have hz : ((fu - 1 : Int)) ≤ 9223372036854775807 := by omega
      have hz1 : (-9223372036854775808 : Int) ≤ fu - 1 := by omega
      clear hs
      go_wp2
      go_ret
      exact ⟨rfl, HS.out.rdk_join⟩
    · have hg : A.goes = true := by unfold Dk.goes burnI; simp [h1]; omega
      have hb : A.burnt.fuse = A.fuse := by unfold Dk.burnt burnI; simp [h1]
      rw [hg, hb]
      clear hg hb
      obtain ⟨fu, hfu⟩ : ∃ fu, fu = A.fuse := ⟨_, rfl⟩
      rw [← hfu] at c2 h0 h1 hf HP ⊢
      clear hfu
      go_wp2
      go_ret
      exact ⟨rfl, HP.out.rdk_join⟩
theorem putF_perm {α : Type} {s : ByteArray} {v : α} : ∀ {l : List (ByteArray × α)}, lk l s = none → (putF l s v).Perm ((s, v) :: l)
  | [], _ => List.Perm.refl _
  | (t, u) :: l, h => by
    rw [lk_cons] at h
    split at h
    · cases h
    · rename_i hne
      unfold putF
      rw [if_neg hne]
      split
      · exact List.Perm.refl _
      · exact ((putF_perm h).cons _).trans (List.Perm.swap _ _ _)
theorem sortF_perm {fs : List Fil} (hn : (fs.map (·.name)).Nodup) : (sortF fs).Perm (fs.map fun f => (f.name, f.cs)) := by
  induction fs with
  | nil => exact List.Perm.refl _
  | cons f fs ih =>
    simp only [List.map_cons, List.nodup_cons] at hn
    have h2 : lk (sortF fs) f.name = none := by
      rw [sortF_lk]
      unfold lkF
      rw [Option.map_eq_none_iff, List.find?_eq_none]
      intro x hx he
      simp only [decide_eq_true_eq] at he
      exact hn.1 (List.mem_map.2 ⟨x, hx, he⟩)
    exact (putF_perm h2).trans ((ih hn.2).cons _)
theorem files_perm {A : Dk} {es : Array MapEntry} {clock : Nat} {fs : List Fil} (hv : View A es clock fs) : (fs.map fun f => (f.name, f.cs)).Perm A.files := by
  have e : sortF fs = A.files := sorted_ext (sortF_sorted fs) hv.fine.sorted fun s => by rw [sortF_lk, hv.same]
  rw [← e]
  exact (sortF_perm hv.map.2.2.1).symm
def leftZ (es : Array MapEntry) (seen : Array Nat) (fs : List Fil) : List (MapEntry × Fil) := (es.toList.zip fs).filter fun x => !seen.contains x.1.born
theorem filter_out {α : Type} {b : α → Nat} : ∀ {l : List α} {x : α} {p : α → Bool}, (l.map b).Nodup → x ∈ l → p x = true → (l.filter p).Perm (x :: l.filter fun y => p y && !(b y == b x))
  | [], x, p, _, h, _ => by cases h
  | y :: l, x, p, hn, hx, hp => by
    simp only [List.map_cons, List.nodup_cons] at hn
    by_cases e : y = x
    · subst e
      rw [List.filter_cons_of_pos hp, List.filter_cons_of_neg (by simp)]
      refine List.Perm.cons _ (List.Perm.of_eq ?_)
      refine List.filter_congr fun z hz => ?_
      have : b z ≠ b y := fun h => hn.1 (by rw [← h]; exact List.mem_map.2 ⟨z, hz, rfl⟩)
      simp [this]
    · have hxl : x ∈ l := by
        rcases List.mem_cons.1 hx with h | h
        · exact absurd h.symm e
        · exact h
      have hb : b y ≠ b x := fun h => hn.1 (by rw [h]; exact List.mem_map.2 ⟨x, hxl, rfl⟩)
      have ih := filter_out hn.2 hxl hp
      by_cases hpy : p y = true
      · rw [List.filter_cons_of_pos hpy, List.filter_cons_of_pos (by simp [hpy, hb])]
        exact (ih.cons _).trans (List.Perm.swap _ _ _)
      · rw [List.filter_cons_of_neg hpy, List.filter_cons_of_neg (by simp [hpy])]
        exact ih
theorem leftZ_step {es : Array MapEntry} {seen : Array Nat} {fs : List Fil} {j : Nat} {e : MapEntry} {f : Fil} (hn : (es.toList.map (·.born)).Nodup) (hl : es.toList.length = fs.length) (hj : es.toList[j]? = some e) (hf : fs[j]? = some f) (he : seen.contains e.born = false) :
    (leftZ es seen fs).Perm ((e, f) :: leftZ es (seen.push e.born) fs) := by
  have hm : ((es.toList.zip fs).map fun x => x.1.born) = es.toList.map (·.born) := by
    rw [show (fun x : MapEntry × Fil => x.1.born) = (fun x : MapEntry => x.born) ∘ Prod.fst from rfl, ← List.map_map, List.map_fst_zip (by omega)]
  have hmem : (e, f) ∈ es.toList.zip fs := List.mem_of_getElem? (i := j) (by rw [List.getElem?_zip_eq_some]; exact ⟨hj, hf⟩)
  have := filter_out (b := fun x : MapEntry × Fil => x.1.born) (p := fun x => !seen.contains x.1.born) (by rw [hm]; exact hn) hmem (by show (!seen.contains e.born) = true; rw [he]; rfl)
  refine this.trans (List.Perm.of_eq ?_)
  unfold leftZ
  congr 1
  refine List.filter_congr fun z _ => ?_
  rw [Array.contains_push]
  simp [Bool.not_or]
theorem leftZ_start {es : Array MapEntry} {fs : List Fil} (hl : es.toList.length = fs.length) : (leftZ es #[] fs).map (·.2) = fs := by
  unfold leftZ
  rw [List.filter_eq_self.2 (by simp), List.map_snd_zip (by omega)]
theorem leftZ_end {es : Array MapEntry} {seen : Array Nat} {fs : List Fil} (h : leftL es seen = []) : leftZ es seen fs = [] := by
  unfold leftZ
  rw [List.filter_eq_nil_iff]
  rintro ⟨e, f⟩ hx
  have he := (List.of_mem_zip hx).1
  have := List.filter_eq_nil_iff.1 h e he
  simpa using this
end Go.Proofs.YtnpinegpajbkeaaGreatDoor
namespace Go.Proofs.YtnpinegpajbkeaaGreatDoor
open Go.RowKit
section
variable {P : Program} {ops : Array Oper} {Q : Exit → Act → World → Prop}
def BR (P : Program) (ops : Array Oper) (Q : Exit → Act → World → Prop) (effs keeps : List Nat) (T : World → Prop) (n : Nat) (l : Array Bool) (a : Act) (w : World) (i : Nat) : Prop :=
  ∃ oi, ops[i]? = some oi ∧ effs.contains i = true ∧ ∀ K : Act → World → Prop, (∀ a' w', (keeps.contains i = true → T w') → wpR P ops Q (RR effs keeps T) n (l.setIfInBounds i true) a' w' → K a' w') → if Region.wanted oi (yielded ops a.tmps) = true then Oper.wp P oi a w K Q else K (a.put oi.dst undef) w
theorem wpR_many {effs keeps : List Nat} {T : World → Prop} {n : Nat} {l : Array Bool} {a : Act} {w : World} (rs : List Nat) (hne : rs.isEmpty = false) (hc : (Region.ready .any ops l == rs) = true) (h : ∀ i ∈ rs, BR P ops Q effs keeps T n l a w i) :
    wpR P ops Q (RR effs keeps T) (n + 1) l a w := by
  have h1 : Region.ready .any ops l = rs := by simpa using hc
  refine ⟨fun h0 => (by rw [h1] at h0; subst h0; cases hne), fun j hj => ?_⟩
  rw [h1] at hj
  obtain ⟨oi, hi, he, hb⟩ := h j hj
  refine wpOp_step hi fun K hK => hb K fun a' w' hT h' => hK a' w' ⟨?_, h'⟩
  unfold RR
  rw [if_pos he]
  split
  · rename_i hk
    exact fun _ => hT hk
  · trivial
theorem br_keep {effs keeps : List Nat} {T : World → Prop} {i : Nat} {oi : Oper} {n : Nat} {l : Array Bool} {a : Act} {w : World} (l' : Array Bool) (hi : ops[i]? = some oi) (hc : (effs.contains i && (l.setIfInBounds i true == l')) = true)
    (h : ∀ K : Act → World → Prop, (∀ a' w', T w' → wpR P ops Q (RR effs keeps T) n l' a' w' → K a' w') → if Region.wanted oi (yielded ops a.tmps) = true then Oper.wp P oi a w K Q else K (a.put oi.dst undef) w) : BR P ops Q effs keeps T n l a w i := by
  simp only [Bool.and_eq_true, beq_iff_eq] at hc
  obtain ⟨h1, h3⟩ := hc
  subst h3
  by_cases hk : keeps.contains i = true
  · exact ⟨oi, hi, h1, fun K hK => h K fun a' w' hT h' => hK a' w' (fun _ => hT) h'⟩
  · exact ⟨oi, hi, h1, fun K hK => h K fun a' w' hT h' => hK a' w' (fun hk' => absurd hk' hk) h'⟩
end
theorem share {S G : Prop} (main : S → G) (pf : S) : G := main pf
end Go.Proofs.YtnpinegpajbkeaaGreatDoor
namespace Go.Proofs.YtnpinegpajbkeaaGreatDoor
open Go.RowKit HP
section
variable {E : Env} {w : World} {q : HP} {e : TypeId} {size n : Nat} {v : Value} {cs : List Value}
theorem wp_append_row {P : Program} {o : Oper} {a : Act} {K : Act → World → Prop} {Q : Exit → Act → World → Prop} {s x : Operand} {t : TypeId} {z : Value} {bytes : Nat}
    (T : SlTy P t e z size bytes)
    (ho : o.op = .call { callee := .builtin .append, args := #[s, x], argTypes := #[t, t] })
    {A : Option Addr} {m c : Nat} {news : List Value} (hs : a.eval s = v) (hx : a.eval x = .slice A m c)
    (h : Sat E w (row e size v n cs * q)) (hnews : Cells w A news) (hl : news.length = m * size) (h1 : news.all Value.oneCell' = true)
    (h63 : n + m ≤ maxLen) (hbytes : (n + m) * bytes ≤ 140737488355328)
    (hk : ∀ v' w', Sat E w' (row e size v' (n + m) (cs ++ news) * q) → K (a.put o.dst v') w') : o.wp P a w K Q := by
  obtain ⟨i, hi, hz, hsize, hby⟩ := info_parts T.info
  obtain ⟨v', w', hr, h2⟩ := run_append_row (P := P) (ty := o.type) T.under hi hz hsize hby T.cells h A m c news hl hnews (List.all_eq_true.1 h1) h63 hbytes (fun _ => T.pos)
  unfold Oper.wp execOp
  simp only [ho, resolve, invoke, builtin, Sem.run_bind, Sem.run_pure, Result.andThen_ok, List.map_toArray, List.map_cons, List.map_nil, hs, hx, hr]
  exact hk v' w' h2
end
end Go.Proofs.YtnpinegpajbkeaaGreatDoor
namespace Go.Proofs.YtnpinegpajbkeaaGreatDoor
open Go.RowKit HP
theorem dk_fileQ {E : Env} {q : HP} {w : World} {d m : Nat} {room fuse : Int} {es : Array MapEntry} {clock : Nat} {fs : List Fil} (hw : Sat E w (HP.dk d room fuse m es clock fs * q)) {j : Nat} {f : Fil} (hj : fs[j]? = some f) :
    ∃ R0 : HP, Sat E w (HP.row 145 1 f.val f.cels.length (celPtrs f.cels) * (HP.cels f.cels * (R0 * q))) ∧
      ∀ (q' : HP) (w' : World) (cels' : List (Nat × Cel)), cels'.map (·.1) = f.cels.map (·.1) → Sat E w' (HP.row 145 1 f.val f.cels.length (celPtrs f.cels) * (HP.cels cels' * (R0 * q'))) →
        Sat E w' (HP.dk d room fuse m es clock (fs.set j ⟨f.name, f.val, cels'⟩) * q') := by
  have h1 := dk_parts hw
  have h2 : Sat E w (HP.all (fs.map HP.fil) * (HP.dsk d room fuse m * (HP.pt m (.map es clock) * q))) := h1.perm (by ac_rfl)
  rw [all_take (l := fs.map HP.fil) (j := j) (p := HP.fil f) (by rw [List.getElem?_map, hj]; rfl)] at h2
  refine ⟨HP.all ((fs.map HP.fil).eraseIdx j) * (HP.dsk d room fuse m * HP.pt m (.map es clock)), h2.perm (by unfold HP.fil HP.cels Fil.ptrs celPtrs; ac_rfl), fun q' w' cels' hfst h => ?_⟩
  have hjl : j < fs.length := (List.getElem?_eq_some_iff.1 hj).1
  have hlen : cels'.length = f.cels.length := by simpa using congrArg List.length hfst
  unfold HP.dk
  rw [all_take (l := (fs.set j (⟨f.name, f.val, cels'⟩ : Fil)).map HP.fil) (j := j) (p := HP.fil ⟨f.name, f.val, cels'⟩) (by rw [List.getElem?_map, List.getElem?_set]; simp [hjl])]
  rw [List.map_set, List.eraseIdx_set_eq]
  have hp : (⟨f.name, f.val, cels'⟩ : Fil).ptrs = celPtrs f.cels := by
    show cels'.map (fun x => Value.pointer (some ⟨x.1, 0, none⟩)) = _
    unfold celPtrs
    have := congrArg (List.map fun b : Nat => Value.pointer (some ⟨b, 0, none⟩)) hfst
    simpa [List.map_map, Function.comp_def] using this
  have e1 : HP.fil ⟨f.name, f.val, cels'⟩ = HP.row 145 1 f.val f.cels.length (celPtrs f.cels) * HP.cels cels' := by
    unfold HP.fil HP.cels
    rw [hp]
    show HP.row 145 1 f.val cels'.length _ * _ = _
    rw [hlen]
  rw [e1]
  exact h.perm (by ac_rfl)
def crc1 (r : Nat) : Nat := if r % 2 = 1 then r / 2 ^^^ 2197175160 else r / 2
def crcJ : Nat → Nat → Nat
  | 0, r => r
  | k + 1, r => crc1 (crcJ k r)
theorem crc1_lt {r : Nat} (h : r < 4294967296) : crc1 r < 4294967296 := by
  unfold crc1
  split
  · exact xor_lt32 (by omega) (by decide)
  · omega
theorem crcJ_lt {r : Nat} (h : r < 4294967296) : ∀ k, crcJ k r < 4294967296
  | 0 => h
  | k + 1 => crc1_lt (crcJ_lt h k)
theorem xor_half (a b : Nat) : (a ^^^ b) / 2 = a / 2 ^^^ b / 2 := by
  have := Nat.shiftRight_xor_distrib (a := a) (b := b) (i := 1)
  simpa [Nat.shiftRight_succ, Nat.shiftRight_zero] using this
theorem xor_par (a b : Nat) (hb : b % 2 = 0) : (a ^^^ b) % 2 = a % 2 := by
  have h := Nat.xor_mod_two_pow (a := a) (b := b) (n := 1)
  rw [Nat.pow_one, hb, Nat.xor_zero] at h
  exact h
theorem crcQ_two (r : Nat) : crcQ r = crc1 (crc1 r) := by
  have hP : (2197175160 : Nat) % 2 = 0 := by decide
  have hH : (2197175160 : Nat) / 2 = 1098587580 := by decide
  have h4 : r % 4 = 0 ∨ r % 4 = 1 ∨ r % 4 = 2 ∨ r % 4 = 3 := by omega
  unfold crcQ
  rcases h4 with h | h | h | h
  · have e1 : crc1 r = r / 2 := by unfold crc1; rw [if_neg (by omega)]
    have e2 : crc1 (r / 2) = r / 2 / 2 := by unfold crc1; rw [if_neg (by omega)]
    rw [h, e1, e2, Nat.div_div_eq_div_mul]
    show r / 4 ^^^ 0 = _
    rw [Nat.xor_zero]
  · have e1 : crc1 r = r / 2 ^^^ 2197175160 := by unfold crc1; rw [if_pos (by omega)]
    have e0 : (r / 2 ^^^ 2197175160) % 2 = 0 := by rw [xor_par _ _ hP]; omega
    have e2 : crc1 (r / 2 ^^^ 2197175160) = (r / 2 ^^^ 2197175160) / 2 := by unfold crc1; rw [if_neg (by omega)]
    rw [h, e1, e2, xor_half, hH, Nat.div_div_eq_div_mul]
    rfl
  · have e1 : crc1 r = r / 2 := by unfold crc1; rw [if_neg (by omega)]
    have e2 : crc1 (r / 2) = r / 2 / 2 ^^^ 2197175160 := by unfold crc1; rw [if_pos (by omega)]
    rw [h, e1, e2, Nat.div_div_eq_div_mul]
    rfl
  · have e1 : crc1 r = r / 2 ^^^ 2197175160 := by unfold crc1; rw [if_pos (by omega)]
    have e0 : (r / 2 ^^^ 2197175160) % 2 = 1 := by rw [xor_par _ _ hP]; omega
    have e2 : crc1 (r / 2 ^^^ 2197175160) = (r / 2 ^^^ 2197175160) / 2 ^^^ 2197175160 := by unfold crc1; rw [if_pos e0]
    rw [h, e1, e2, xor_half, hH, Nat.div_div_eq_div_mul, Nat.xor_assoc]
    rfl
theorem crcJ_I (r : Nat) : ∀ k, crcJ (2 * k) r = crcI k r
  | 0 => rfl
  | k + 1 => by
    show crc1 (crc1 (crcJ (2 * k) r)) = crcQ (crcI k r)
    rw [crcJ_I r k, crcQ_two]
theorem crcB_bits (r x : Nat) : crcB r x = crcJ 8 (r ^^^ x) := (crcJ_I (r ^^^ x) 4).symm
theorem bit_mask {r : Nat} (h : r < 4294967296) : bits .and .u32 (r : Int) 1 = ((r % 2 : Nat) : Int) := by
  have := u32_and_nat r 1 h (by decide)
  rw [Nat.and_one_is_mod] at this
  exact this
set_option maxHeartbeats 1000000 in
set_option maxRecDepth 100000 in
theorem ref_more (A : Option Addr) (l : List Int) (n c : Nat) (s : Nat) (w : World) (hln : l.length = n) (hs : s < 4294967296) (hl : n ≤ maxLen) (hb : Bytes l) (hc : Cells w A (b8s l)) :
    Calls Tryz.prog 144 #[.int .u32 s, .slice A n c] w fun e w' => e = .returned (.int .u32 (crcMore s l)) ∧ w' = w := by
  have x1 : bits BinOp.xor IntKind.u32 IntKind.u32.max (s : Int) = ((4294967295 ^^^ s : Nat) : Int) := u32_xor_nat 4294967295 s (by decide) hs
  have HX : Aside (4294967295 ^^^ s < 4294967296) := ⟨xor_lt32 (by decide) hs⟩
  obtain ⟨y, hy⟩ : ∃ y, y = 4294967295 ^^^ s := ⟨_, rfl⟩
  have HF : Aside (crcMore s l = 4294967295 ^^^ crcL y l) := ⟨by rw [hy]; rfl⟩
  rw [← hy] at x1 HX
  clear hy
  have HLN := Aside.mk hln
  have hl' : (n : Int) ≤ 9223372036854775807 := by have := hl; unfold maxLen at this; omega
  clear hln
  go_enter Tryz.func144, Tryz.ntmps144
  go_wp2
  go_loopw [5, 13] (fun v5 v13 wr => ∃ k : Nat, k ≤ n ∧ v13 = .int .i64 k ∧ (∃ r : Nat, v5 = .int .u32 r ∧ Aside (r = crcL y (l.take k) ∧ r < 4294967296)) ∧ wr = w) (fun _ i _ => n - (intOf i).toNat)
  case atStart => exact ⟨0, Nat.zero_le _, rfl, ⟨y, rfl, ⟨rfl, HX.out⟩⟩, rfl⟩
  case round =>
    obtain ⟨k, hk, rfl, ⟨r, rfl, HR⟩, rfl⟩ := hrel
    by_cases hlt : k < n
    · have hltl : k < l.length := by rw [HLN.out]; exact hlt
      obtain ⟨a, rfl, hcx⟩ := hc.at_ k (by simpa [b8s] using hltl)
      have hxb := hb _ (List.getElem_mem hltl)
      have HN : Aside (l.take (k + 1) = l.take k ++ [l[k]]) := ⟨List.take_succ_eq_append_getElem hltl⟩
      simp only [b8s, List.getElem_map] at hcx
      obtain ⟨m, hm⟩ := Int.eq_ofNat_of_zero_le hxb.1
      rw [hm] at hcx hxb HN
      have hm8 : m < 256 := by omega
      have x2 : bits .xor .u32 (r : Int) (m : Int) = ((r ^^^ m : Nat) : Int) := u32_xor_nat r m HR.out.2 (by omega)
      have HZ : Aside (r ^^^ m < 4294967296 ∧ crcB r m = crcJ 8 (r ^^^ m)) := ⟨xor_lt32 HR.out.2 (by omega), crcB_bits r m⟩
      obtain ⟨z, hz⟩ : ∃ z, z = r ^^^ m := ⟨_, rfl⟩
      rw [← hz] at x2 HZ
      clear hz hm hxb hb
      obtain ⟨wo, rfl⟩ : ∃ wo : World, wo = wr := ⟨_, rfl⟩
      go_wp2
      go_loopw [5, 21] (fun v5 v21 w2 => ∃ j : Nat, j ≤ 8 ∧ v21 = .int .i64 j ∧ (∃ t : Nat, v5 = .int .u32 t ∧ Aside (t = crcJ j z ∧ t < 4294967296)) ∧ w2 = wo) (fun _ i _ => 8 - (intOf i).toNat)
      case atStart => exact ⟨0, Nat.zero_le _, rfl, ⟨z, rfl, ⟨rfl, HZ.out.1⟩⟩, rfl⟩
      case round =>
        obtain ⟨j, hj, rfl, ⟨t, rfl, HT⟩, rfl⟩ := hrel
        by_cases hj8 : j < 8
        · have hj8I : (j : Int) < 8 := by omega
          have x3 := bit_mask HT.out.2
          have HQ := Aside.mk (crc1_lt HT.out.2)
          have HJ : Aside (crcJ (j + 1) z = crc1 t) := ⟨by rw [HT.out.1]; rfl⟩
          obtain ⟨h, hh⟩ : ∃ h, h = t / 2 := ⟨_, rfl⟩
          have x4 : (t : Int) / 2 = (h : Int) := by omega
          have hh32 : h < 4294967296 := by have := HT.out.2; omega
          have x6 : bits .xor .u32 (h : Int) 2197175160 = ((h ^^^ 2197175160 : Nat) : Int) := u32_xor_nat h 2197175160 hh32 (by decide)
          by_cases ho : t % 2 = 1
          · have HO : Aside (crc1 t = h ^^^ 2197175160) := ⟨by unfold crc1; rw [if_pos ho, hh]⟩
            rw [ho] at x3
            have x5 : bits .and .u32 (t : Int) 1 = 1 := x3
            obtain ⟨t', ht'⟩ : ∃ t', t' = h ^^^ 2197175160 := ⟨_, rfl⟩
            rw [← ht'] at x6 HO
            clear ht' ho x3 hh
            go_wp2
            go_roundw
            case rel => exact ⟨j + 1, by omega, by go_num, ⟨t', rfl, ⟨by rw [HJ.out, HO.out], by rw [← HO.out]; exact HQ.out⟩⟩, trivial⟩
            case measure => simp only [intOf]; omega
          · have ho0 : t % 2 = 0 := by omega
            have HO : Aside (crc1 t = h) := ⟨by unfold crc1; rw [if_neg ho, hh]⟩
            rw [ho0] at x3
            have x5 : bits .and .u32 (t : Int) 1 = 0 := x3
            clear ho ho0 x3 hh
            go_wp2
            go_roundw
            case rel => exact ⟨j + 1, by omega, by go_num, ⟨h, rfl, ⟨by rw [HJ.out, HO.out], hh32⟩⟩, trivial⟩
            case measure => simp only [intOf]; omega
        · have hj8' : j = 8 := by omega
          subst hj8'
          go_wp2
          go_roundw
          case rel =>
            refine ⟨k + 1, by omega, by go_num, ⟨t, rfl, ⟨?_, HT.out.2⟩⟩, trivial⟩
            rw [HN.out, crcL_append, ← HR.out.1, HT.out.1, ← HZ.out.2]
            rfl
          case measure => simp only [intOf]; omega
    · have hk' : k = n := by omega
      have x7 : bits BinOp.xor IntKind.u32 IntKind.u32.max (r : Int) = ((4294967295 ^^^ r : Nat) : Int) := u32_xor_nat 4294967295 r (by decide) HR.out.2
      have HE : Aside (crcMore s l = 4294967295 ^^^ r) := ⟨by rw [HF.out, HR.out.1, hk', ← HLN.out, List.take_length]⟩
      clear hk'
      go_wp2
      go_ret
      rw [HE.out]
      exact ⟨rfl, rfl⟩
set_option maxHeartbeats 1000000 in
set_option maxRecDepth 100000 in
theorem ref_sum (A : Option Addr) (l : List Int) (n c : Nat) (w : World) (hln : l.length = n) (hl : n ≤ maxLen) (hb : Bytes l) (hc : Cells w A (b8s l)) :
    Calls Tryz.prog 113 #[.slice A n c] w fun e w' => e = .returned (.int .u32 (crcSum l)) ∧ w' = w := by
  have HS := Aside.mk (And.intro hln (And.intro hl (And.intro hb hc)))
  clear hln hl hb hc
  go_enter Tryz.func113, Tryz.ntmps113
  go_wp2_with fail
  refine (ref_more A l n c 0 _ HS.out.1 (by decide) HS.out.2.1 HS.out.2.2.1 HS.out.2.2.2).mono ?_
  rintro e w1 ⟨rfl, hw1⟩
  subst w1
  go_wp2
  go_ret
  exact ⟨rfl, rfl⟩
set_option maxHeartbeats 1000000 in
set_option maxRecDepth 100000 in
theorem ref_put (E : Env) (q : HP) (n wd : Nat) (w : World) (hwd : wd ≤ 8) (hn : n < 18446744073709551616) (hw : Sat E w q) :
    Calls Tryz.prog 112 #[.int .u64 n, .int .i64 wd] w fun e w' => ∃ g, e = .returned (.slice (some ⟨g, 0, none⟩) wd wd) ∧ Sat E w' (HP.row 5 1 (.slice (some ⟨g, 0, none⟩) wd wd) wd (b8s (putI n wd)) * q) := by
  have hz : (if (0 : Int) > (wd : Int) then (0 : Int) else wd) = wd := by split <;> omega
  have hm : (if (8 : Int) < (wd : Int) then (8 : Int) else wd) = wd := by split <;> omega
  have HW := Aside.mk hw
  clear hw
  go_enter Tryz.func112, Tryz.ntmps112
  go_wp2_with (first
    | (refine wpList_make_row (n := wd) slB8 rfl rfl rfl rfl rfl HW.out (by unfold maxLen; omega) (by omega) (fun g w2 hw2 => ?_); have HW2 := Aside.mk hw2; clear hw2))
  go_loopw [0, 7] (fun v0 v7 wr => ∃ k : Nat, k ≤ wd ∧ (∃ i : Int, v7 = .int .i64 i ∧ i = (wd : Int) - 1 - k) ∧ (∃ m : Nat, v0 = .int .u64 m ∧ m < 18446744073709551616 ∧ Aside (m = n / 256 ^ k)) ∧ Aside (Sat E wr (HP.row 5 1 (.slice (some ⟨g, 0, none⟩) wd wd) wd (b8s (List.replicate (wd - k) 0 ++ (putI n wd).drop (wd - k))) * q))) (fun _ i _ => (intOf i + 1).toNat)
  case atStart => exact ⟨0, Nat.zero_le _, ⟨_, rfl, by omega⟩, ⟨n, rfl, hn, ⟨by simp⟩⟩, ⟨HW2.out.perm (by rw [Nat.sub_zero, List.drop_of_length_le (by rw [putI_length]; exact Nat.le_refl _), List.append_nil]; unfold b8s; rw [List.map_replicate])⟩⟩
  case round =>
    obtain ⟨k, hk, ⟨i, rfl, hi⟩, ⟨m, rfl, hm64, HM⟩, HS⟩ := hrel
    by_cases hlt : k < wd
    · obtain ⟨t, ht⟩ : ∃ t : Nat, i = (t : Int) := ⟨wd - 1 - k, by omega⟩
      subst ht
      have ht2 : t = wd - 1 - k := by omega
      have htl : t < (b8s (List.replicate (wd - k) 0 ++ (putI n wd).drop (wd - k))).length := by rw [b8s_length, List.length_append, List.length_replicate, List.length_drop, putI_length]; omega
      have f1 := HS.out.row_thaw t htl
      rw [Nat.zero_add] at f1
      have c1 := HS.out.row_cell t _ (List.getElem?_eq_getElem htl)
      rw [Nat.zero_add] at c1
      generalize (b8s (List.replicate (wd - k) 0 ++ (putI n wd).drop (wd - k)))[t] = old at c1
      have hr2 : (m : Int) % 256 = putD n k := by unfold putD; rw [← HM.out]; omega
      have hr1 : (m : Int).tmod 256 = putD n k := by rw [Int.tmod_eq_emod_of_nonneg (by omega)]; exact hr2
      have hpd := putD_byte n k
      obtain ⟨m2, hm2⟩ : ∃ m2 : Nat, m2 = m / 256 := ⟨_, rfl⟩
      have hd2 : (m : Int) / 256 = (m2 : Int) := by omega
      have hd1 : (m : Int).tdiv 256 = (m2 : Int) := by rw [Int.tdiv_eq_ediv_of_nonneg (by omega)]; exact hd2
      have HM2 : Aside (m2 = n / 256 ^ (k + 1)) := ⟨by rw [hm2, HM.out, Nat.div_div_eq_div_mul, Nat.pow_succ]⟩
      have hm264 : m2 < 18446744073709551616 := by omega
      have h1 := HS.out.row_set t htl (.int .u8 (putD n k))
      rw [ht2, put_set n wd k hlt, ← ht2, Nat.zero_add] at h1
      have H1 := Aside.mk h1
      have HI : Aside ((t : Int) - 1 = (wd : Int) - 1 - ((k + 1 : Nat) : Int)) := ⟨by push_cast; omega⟩
      have ht3 : (t : Int) < wd := by omega
      have ht4 : (0 : Int) ≤ t := by omega
      clear h1 htl ht2 hi
      generalize putD n k = pd at *
      clear hm2
      go_wp2
      exact ⟨⟨k + 1, by omega, ⟨_, rfl, HI.out⟩, ⟨m2, rfl, hm264, HM2⟩, ⟨H1.out⟩⟩, by simp only [intOf]; omega⟩
    · have hk' : k = wd := by omega
      subst hk'
      have H1 : Aside (Sat E wr (HP.row 5 1 (.slice (some ⟨g, 0, none⟩) k k) k (b8s (putI n k)) * q)) := ⟨by have := HS.out; rw [Nat.sub_self] at this; exact this⟩
      have hi2 : i = -1 := by omega
      subst hi2
      go_wp2
      go_ret
      exact ⟨g, rfl, H1.out⟩
set_option maxHeartbeats 1000000 in
set_option maxRecDepth 100000 in
theorem ref_get (A : Option Addr) (l : List Int) (n c : Nat) (w : World) (hln : l.length = n) (h0 : 0 < n) (h8 : n ≤ 8) (hb : Bytes l) (hc : Cells w A (b8s l)) :
    Calls Tryz.prog 130 #[.slice A n c] w fun e w' => e = .returned (.tuple #[.int .u64 (getN l), .bool true]) ∧ w' = w := by
  have HL := Aside.mk hln
  clear hln
  have h0' : ¬ (n : Int) < 1 := by omega
  have h8' : ¬ (8 : Int) < (n : Int) := by omega
  go_enter Tryz.func130, Tryz.ntmps130
  go_wp2
  go_loopw [4, 17] (fun v4 v17 wr => ∃ k : Nat, k ≤ n ∧ v17 = .int .i64 k ∧ (∃ r : Nat, v4 = .int .u64 r ∧ Aside (r = getN (l.take k) ∧ r < 256 ^ k)) ∧ wr = w) (fun _ i _ => n - (intOf i).toNat)
  case atStart => exact ⟨0, Nat.zero_le _, rfl, ⟨0, rfl, ⟨rfl, by decide⟩⟩, rfl⟩
  case round =>
    obtain ⟨k, hk, rfl, ⟨r, rfl, HR⟩, rfl⟩ := hrel
    by_cases hlt : k < n
    · have hltl : k < l.length := by rw [HL.out]; exact hlt
      have hlt2 : (k : Int) < n := by omega
      obtain ⟨a, rfl, hcx⟩ := hc.at_ k (by simpa [b8s] using hltl)
      have hxb := hb _ (List.getElem_mem hltl)
      have HN : Aside (l.take (k + 1) = l.take k ++ [l[k]]) := ⟨List.take_succ_eq_append_getElem hltl⟩
      simp only [b8s, List.getElem_map] at hcx
      obtain ⟨m, hm⟩ := Int.eq_ofNat_of_zero_le hxb.1
      rw [hm] at hcx hxb HN
      have hm8 : m < 256 := by omega
      have hr7 : r < 72057594037927936 := Nat.lt_of_lt_of_le HR.out.2 (Nat.le_trans (Nat.pow_le_pow_right (by decide) (show k ≤ 7 by omega)) (by decide))
      have HZ : Aside (r * 256 + m = getN (l.take (k + 1)) ∧ r * 256 + m < 256 ^ (k + 1)) := ⟨by
        rw [HN.out, getN_append_one, ← HR.out.1, Int.toNat_natCast, Nat.pow_succ]
        have := HR.out.2
        omega⟩
      obtain ⟨y, hy⟩ : ∃ y : Nat, y = r * 256 := ⟨_, rfl⟩
      obtain ⟨z, hz⟩ : ∃ z : Nat, z = y + m := ⟨_, rfl⟩
      rw [← hy, ← hz] at HZ
      have x1 : (r : Int) * 256 = (y : Int) := by omega
      have x3 : (y : Int) + (m : Int) = (z : Int) := by omega
      have w1 : IntKind.u64.wrap (y : Int) = (y : Int) := by rw [IntKind.wrap_u64]; omega
      have w2 : IntKind.u64.wrap (z : Int) = (z : Int) := by rw [IntKind.wrap_u64]; omega
      clear hm hxb hltl hy hz HN hr7
      go_wp2
      exact ⟨⟨k + 1, by omega, by push_cast; rfl, ⟨z, rfl, HZ⟩, trivial⟩, by simp only [intOf]; omega⟩
    · have hk' : k = n := by omega
      subst hk'
      have HE : Aside (getN l = r) := ⟨by rw [HR.out.1, ← HL.out, List.take_length]⟩
      go_wp2
      go_ret2
      rw [HE.out]
      exact ⟨rfl, rfl⟩
theorem wpList_value_run {P : Program} {ops : Array Oper} {rest : List Oper} {o : Oper} {a : Act} {w w' : World} {Q : Exit → Act → World → Prop} {v : Value} (hg : o.guard = none) (hr : (execOp a.eval o).run P w = .ok (.value v) w') (hk : wpList P ops Q rest (a.put o.dst v) w') : wpList P ops Q (o :: rest) a w := by
  refine wpList_plain hg fun K hK => ?_
  exact wp_value_run hr (hK _ _ hk)
theorem Sat.row_new {E : Env} {w : World} {q : HP} {e : TypeId} (h : Sat E w q) (cs : List Value) (hn : cs.length ≤ maxLen) : Sat E (w.alloc (.cells cs.toArray e)) (HP.row e 1 (.slice (some ⟨w.heap.size, 0, none⟩) cs.length cs.length) cs.length cs * q) := by
  have h1 := h.alloc (.cells cs.toArray e)
  have h2 := Sat.row_mk (n := cs.length) (cap := cs.length) (off := 0) (size := 1) (cs := cs) h1 (Nat.le_refl _) hn (by simp) (by simp)
  simpa using h2
def sliceLen : Value → Nat
  | .slice _ n _ => n
  | _ => 0
set_option maxHeartbeats 4000000 in
set_option maxRecDepth 100000 in
theorem ref_frame (E : Env) (q : HP) (name : ByteArray) (index gen : Nat) (A : Option Addr) (p : List Int) (n c : Nat) (w : World) (hname : name.size ≤ maxLen) (hi : (index : Int) ≤ 2147483647) (hg : (gen : Int) ≤ 4611686018427387904) (hpn : p.length = n) (hn : n ≤ 106) (hp : Bytes p)
    (hq : ∀ w, Sat E w q → Cells w A (b8s p)) (hw : Sat E w q) :
    Calls Tryz.prog 66 #[.string name, .int .i64 index, .int .i64 gen, .slice A n c] w fun e w' => ∃ v, e = .returned (.tuple #[v, .int .i64 0]) ∧ Sat E w' (HP.row 5 1 v 128 (b8s (extI name index gen p)) * q) := by
  have HQ := Aside.mk (And.intro hq (And.intro hp hpn))
  have HNM := Aside.mk hname
  have hn' : (n : Int) ≤ 106 := by omega
  have hi0 : (0 : Int) ≤ (index : Int) := by omega
  have hg0 : (0 : Int) ≤ (gen : Int) := by omega
  have u1 : IntKind.u64.wrap (index : Int) = (index : Int) := by rw [IntKind.wrap_u64]; omega
  have u2 : IntKind.u64.wrap (gen : Int) = (gen : Int) := by rw [IntKind.wrap_u64]; omega
  have u3 : IntKind.u8.wrap (n : Int) = (n : Int) := by rw [IntKind.wrap_u8]; omega
  have h1 : Sat E (w.alloc (.cells #[.int .u8 229] 5)) (HP.row 5 1 (.slice (some ⟨w.heap.size, 0, none⟩) 1 1) 1 (b8s [229]) * q) := hw.row_new (b8s [229]) (by unfold maxLen; show 1 ≤ _; omega)
  obtain ⟨gs, cs, w2, hr2, h2, c2⟩ := run_str_bytes (dst := 43) Tryz.underlying9 Tryz.underlying43 Tryz.underlying5 name h1
  have H2 := Aside.mk (And.intro h2 c2)
  clear hq hw hp hpn h1 h2 c2 hname
  go_enter Tryz.func66, Tryz.ntmps66
  go_wp2_with (first | (refine wpList_value_run rfl (exec_convert rfl rfl hr2) ?_))
  clear hr2
  refine (ref_sum _ (strB name) name.size cs w2 (strB_length _) HNM.out (strB_bytes _) H2.out.2).mono ?_
  rintro e w3 ⟨rfl, hw3⟩
  subst w3
  obtain ⟨S, hS⟩ : ∃ S, S = crcSum (strB name) := ⟨_, rfl⟩
  have hS4 : S < 4294967296 := by rw [hS]; exact crcSum_lt (strB_bytes _)
  rw [← hS]
  have HSS := Aside.mk hS
  clear hS
  have u4 : IntKind.u64.wrap (S : Int) = (S : Int) := by rw [IntKind.wrap_u64]; omega
  go_wp2_with fail
  refine (ref_put E _ S 4 w2 (by omega) (by omega) H2.out.1).mono ?_
  rintro e w4 ⟨g4, rfl, h4⟩
  have H4 := Aside.mk (And.intro h4.s2 h4.row_cells)
  clear h4 H2 u4
  go_wp2_with (at_builtin; refine wpList_append_row slB8 rfl rfl (by rfl) (by rfl) H4.out.1 H4.out.2 (by rw [b8s_length, putI_length]) (b8s_one _) (by unfold maxLen; omega) (by omega) (fun v5 w5 h5 => ?_); rw [← b8s_append] at h5; obtain ⟨A5, c5, rfl, -, -⟩ := h5.row_slice; have H5 := Aside.mk h5.drop2; clear h5)
  refine (ref_put E _ index 4 _ (by omega) (by omega) H5.out).mono ?_
  rintro e w6 ⟨g6, rfl, h6⟩
  have H6 := Aside.mk (And.intro h6.s2 h6.row_cells)
  clear h6 H5 H4
  go_wp2_with (at_builtin; refine wpList_append_row slB8 rfl rfl (by rfl) (by rfl) H6.out.1 H6.out.2 (by rw [b8s_length, putI_length]) (b8s_one _) (by unfold maxLen; omega) (by omega) (fun v7 w7 h7 => ?_); rw [← b8s_append] at h7; obtain ⟨A7, c7, rfl, -, -⟩ := h7.row_slice; have H7 := Aside.mk h7.drop2; clear h7)
  refine (ref_put E _ gen 8 _ (by omega) (by omega) H7.out).mono ?_
  rintro e w8 ⟨g8, rfl, h8⟩
  have H8 := Aside.mk (And.intro h8.s2 h8.row_cells)
  clear h8 H7 H6
  have HCP : Aside (∀ w r, Sat E w (r * q) → Cells w A (b8s p)) := ⟨fun w r h => HQ.out.1 w h.right⟩
  go_wp2_with (at_builtin; first
    | (refine wpList_append_row slB8 rfl rfl (by rfl) (by rfl) H8.out.1 H8.out.2 (by rw [b8s_length, putI_length]) (b8s_one _) (by unfold maxLen; omega) (by omega) (fun v9 w9 h9 => ?_); rw [← b8s_append] at h9; obtain ⟨A9, c9, rfl, -, -⟩ := h9.row_slice; have H9 := Aside.mk h9.drop2; clear h9)
    | (refine wpList_append_new (news := b8s [(n : Int)]) slB8 rfl rfl (by rfl) (by rfl) H9.out (by rfl) (by rfl) (by unfold maxLen; omega) (by omega) (fun v10 w10 h10 => ?_); rw [← b8s_append] at h10; obtain ⟨A10, c10, rfl, -, -⟩ := h10.row_slice; have H10 := Aside.mk h10; clear h10)
    | (refine wpList_append_row slB8 rfl rfl (by rfl) (by rfl) H10.out (HCP.out _ _ H10.out) (by rw [b8s_length, HQ.out.2.2]; omega) (b8s_one _) (by unfold maxLen; omega) (by omega) (fun v11 w11 h11 => ?_); rw [← b8s_append] at h11; obtain ⟨A11, c11, rfl, -, -⟩ := h11.row_slice; have H11 := Aside.mk h11; clear h11))
  obtain ⟨hd, hhd⟩ : ∃ hd, hd = [229] ++ putI S 4 ++ putI index 4 ++ putI gen 8 ++ [(n : Int)] ++ p := ⟨_, rfl⟩
  rw [← hhd] at H11
  have HHD := Aside.mk hhd
  have H12 : Aside (Sat E w11 (HP.row 5 1 (.slice A11 (18 + n) c11) (18 + n) (b8s (hd ++ List.replicate 0 0)) * q)) := ⟨by rw [List.replicate_zero, List.append_nil]; exact H11.out⟩
  clear H11 H10 H9 H8 hhd
  go_loopw [10] (fun v10 wr => ∃ (m k : Nat) (A10 : Option Addr) (c10 : Nat), v10 = .slice A10 m c10 ∧ m = 18 + n + k ∧ m ≤ 124 ∧ Aside (Sat E wr (HP.row 5 1 (.slice A10 m c10) m (b8s (hd ++ List.replicate k 0)) * q))) (fun v _ => 124 - sliceLen v)
  case atStart => exact ⟨18 + n, 0, A11, c11, rfl, rfl, by omega, H12⟩
  case round =>
    clear H12
    obtain ⟨m, k, A10, c10, rfl, hm, hm2, HS⟩ := hrel
    by_cases hlt : m < 124
    · have hlt2 : (m : Int) < 124 := by omega
      have HE : Aside (hd ++ List.replicate k 0 ++ [0] = hd ++ List.replicate (k + 1) (0 : Int)) := ⟨by rw [List.append_assoc, List.replicate_succ']⟩
      have HM := Aside.mk hm
      clear hm
      go_wp2_with (at_builtin; refine wpList_append_new (news := b8s [0]) slB8 rfl rfl (by rfl) (by rfl) HS.out (by rfl) (by rfl) (by unfold maxLen; omega) (by omega) (fun v5 w5 h5 => ?_); rw [← b8s_append, HE.out] at h5; obtain ⟨A5, c5, rfl, -, -⟩ := h5.row_slice; have H5 := Aside.mk h5; clear h5)
      go_roundw
      case rel => exact ⟨m + 1, k + 1, A5, c5, rfl, by have := HM.out; omega, by omega, H5⟩
      case measure => simp only [sliceLen]; omega
    · have hm124 : m = 124 := by omega
      subst hm124
      have hk : k = 106 - p.length := by rw [HQ.out.2.2]; omega
      have HX : Aside (hd ++ List.replicate k 0 = extH name index gen p) := ⟨by rw [HHD.out, hk, HSS.out]; unfold extH; rw [HQ.out.2.2]⟩
      have h0 := HS.out
      rw [HX.out] at h0
      have H0 := Aside.mk h0
      obtain ⟨X, hX⟩ : ∃ X, X = extH name index gen p := ⟨_, rfl⟩
      have hXl : X.length = 124 := by rw [hX]; exact extH_length (by rw [HQ.out.2.2]; exact hn)
      have hXb : Bytes X := by rw [hX]; exact extH_bytes (by rw [HQ.out.2.2]; exact hn) HQ.out.2.1
      have HI : Aside (extI name index gen p = X ++ putI (crcSum X) 4) := ⟨by unfold extI; rw [← hX]⟩
      rw [← hX] at H0
      have HXP := Aside.mk (And.intro hXl hXb)
      clear hm hk h0 hX hXl hXb HS HX
      go_wp2_with fail
      refine (ref_sum _ X 124 _ _ HXP.out.1 (by unfold maxLen; omega) HXP.out.2 H0.out.row_cells).mono ?_
      rintro e w3 ⟨rfl, hw3⟩
      subst w3
      obtain ⟨T, hT⟩ : ∃ T, T = crcSum X := ⟨_, rfl⟩
      have hT4 : T < 4294967296 := by rw [hT]; exact crcSum_lt HXP.out.2
      rw [← hT] at HI ⊢
      clear hT
      have u4 : IntKind.u64.wrap (T : Int) = (T : Int) := by rw [IntKind.wrap_u64]; omega
      go_wp2_with fail
      refine (ref_put E _ T 4 _ (by omega) (by omega) H0.out).mono ?_
      rintro e w4 ⟨g4, rfl, h4⟩
      have H4 := Aside.mk (And.intro h4.s2 h4.row_cells)
      clear h4 H0 u4
      go_wp2_with (at_builtin; refine wpList_append_row slB8 rfl rfl (by rfl) (by rfl) H4.out.1 H4.out.2 (by rw [b8s_length, putI_length]) (b8s_one _) (by unfold maxLen; omega) (by omega) (fun v5 w5 h5 => ?_); rw [← b8s_append] at h5; obtain ⟨A5, c5, rfl, -, -⟩ := h5.row_slice; have H5 := Aside.mk h5.drop2; clear h5)
      go_ret2
      rw [HI.out]
      exact ⟨_, rfl, H5.out⟩
set_option maxHeartbeats 2000000 in
set_option maxRecDepth 100000 in
theorem ref_frame_bad (name : ByteArray) (index gen : Int) (A : Option Addr) (n c : Nat) (w : World) (h : ¬ FrameOk index gen n) :
    Calls Tryz.prog 66 #[.string name, .int .i64 index, .int .i64 gen, .slice A n c] w fun e w' => e = .returned (.tuple #[.slice none 0 0, .int .i64 1]) ∧ w' = w := by
  have hb : index < 0 ∨ 2147483647 < index ∨ gen < 0 ∨ 4611686018427387904 < gen ∨ 106 < (n : Int) := by unfold FrameOk at h; omega
  clear h
  have key : ((((index < 0 ∨ 2147483647 < index) ∨ gen < 0) ∨ 4611686018427387904 < gen) ∨ 106 < (n : Int)) := by omega
  go_enter Tryz.func66, Tryz.ntmps66
  go_wp2
  all_goals (go_ret2; exact ⟨rfl, rfl⟩)
theorem run_string_m {P : Program} {w : World} {src dst e : TypeId} {A : Option Addr} {l : List Int} {n c : Nat} (hn : l.length = n) (hs : P.underlying src = some (.slice e)) (he : P.underlying e = some (.int .u8)) (hd : P.underlying dst = some .string)
    (h : Cells w A (b8s l)) : (convert src dst (.slice A n c)).run P w = .ok (.string (strOf l)) w := by
  subst hn
  exact run_string hs he hd h
theorem strOf_eqb {a b : List Int} (ha : Bytes a) (hb : Bytes b) : ((strOf a).toList == (strOf b).toList) = decide (a = b) := by
  by_cases h : a = b
  · subst h; simp
  · have : ¬ (strOf a).toList = (strOf b).toList := fun h2 => h (strOf_inj ha hb (toList_inj h2))
    simp [h, this]
theorem openI_gen_none {b : List Int} {name : ByteArray} {index : Int} (h : 4611686018427387904 < getN ((b.drop 9).take 8)) : openI b name index = none := by
  unfold openI
  by_cases h1 : b.length ≠ 128 ∨ 106 < b.getD 17 0 ∨ index < 0 ∨ 2147483647 < index
  · rw [if_pos h1]
  · rw [if_neg h1, if_pos h]
set_option maxHeartbeats 4000000 in
set_option maxRecDepth 100000 in
theorem ref_open (E : Env) (q : HP) (name : ByteArray) (index : Int) (A : Option Addr) (b : List Int) (n c : Nat) (w : World) (hname : name.size ≤ maxLen) (hbn : b.length = n) (hnc : n ≤ c) (hb : Bytes b)
    (hq : ∀ w, Sat E w q → Cells w A (b8s b)) (hw : Sat E w q) :
    Calls Tryz.prog 96 #[.slice A n c, .string name, .int .i64 index] w fun e w' =>
      (openI b name index = none ∧ e = .returned (.tuple #[.slice none 0 0, .int .i64 0, .int .i64 40]) ∧ Sat E w' q) ∨
      (∃ p gen v, openI b name index = some (p, gen) ∧ e = .returned (.tuple #[v, .int .i64 gen, .int .i64 0]) ∧ Sat E w' (HP.row 5 1 v p.length (b8s p) * q)) := by
  by_cases hlen : n = 128
  · subst hlen
    have hcw := hq w hw
    obtain ⟨a, rfl, -⟩ := hcw.at_ 0 (by rw [b8s_length, hbn]; decide)
    obtain ⟨g, o, rfl⟩ := slice_addr hcw rfl (k := 0) (by rw [b8s_length, hbn]; decide)
    have g17 : b[17]? = some (b.getD 17 0) := by
      have : 17 < b.length := by omega
      simp [List.getD, this]
    have c17 : w.cell? ⟨g, o + 17, none⟩ = some (.int .u8 (b.getD 17 0)) := by
      have := hcw.some_ 17 (.int .u8 (b.getD 17 0)) (by unfold b8s; rw [List.getElem?_map, g17]; rfl)
      rw [addr_add] at this
      exact this
    have hx := hb _ (List.mem_of_getElem? g17)
    have HO : Aside (openI b name index = if b.length ≠ 128 ∨ 106 < b.getD 17 0 ∨ index < 0 ∨ 2147483647 < index then none else
        if 4611686018427387904 < getN ((b.drop 9).take 8) then none else
        if extI name index.toNat (getN ((b.drop 9).take 8)) ((b.drop 18).take (b.getD 17 0).toNat) ≠ b then none else
        some ((b.drop 18).take (b.getD 17 0).toNat, getN ((b.drop 9).take 8))) := ⟨rfl⟩
    obtain ⟨x, hxe⟩ : ∃ x : Nat, b.getD 17 0 = (x : Int) := ⟨(b.getD 17 0).toNat, by omega⟩
    rw [hxe] at c17 hx HO
    clear g17 hxe
    by_cases hbad : 106 < (x : Int)
    · have HN : Aside (openI b name index = none ∧ Sat E w q) := ⟨by rw [HO.out, if_pos (.inr (.inl hbad))], hw⟩
      clear HO hw hq hcw hbn
      go_enter Tryz.func96, Tryz.ntmps96
      go_wp2
      all_goals (go_ret3; exact .inl ⟨HN.out.1, rfl, HN.out.2⟩)
    · have hx1 : ¬ 106 < (x : Int) := hbad
      have HQ := Aside.mk (And.intro hq (And.intro hw (And.intro hb hbn)))
      have HNM := Aside.mk hname
      have cg : Cells w (some ⟨g, o + 9, none⟩) (b8s ((b.drop 9).take 8)) := by
        have := (hcw.drop 9).take 8
        rw [addr_add] at this
        unfold b8s at this ⊢
        rw [List.map_take, List.map_drop]
        exact this
      have CG := Aside.mk cg
      have HGN : Aside (∀ G, G = getN ((b.drop 9).take 8) → 4611686018427387904 < G → openI b name index = none) := ⟨fun G hG h => openI_gen_none (by rw [← hG]; exact h)⟩
      clear hbad hq hw hcw hbn cg hb hname
      go_enter Tryz.func96, Tryz.ntmps96
      go_wp2_with fail
      refine (ref_get (some ⟨g, o + 9, none⟩) ((b.drop 9).take 8) 8 (c - 9) w (by rw [List.length_take, List.length_drop, HQ.out.2.2.2]; rfl) (by decide) (by decide) (fun y hy => HQ.out.2.2.1 y (List.mem_of_mem_drop (List.mem_of_mem_take hy))) CG.out).mono ?_
      rintro e w1 ⟨rfl, hw1⟩
      subst w1
      obtain ⟨G, hGe⟩ : ∃ G, G = getN ((b.drop 9).take 8) := ⟨_, rfl⟩
      have HGN2 := Aside.mk (HGN.out G hGe)
      rw [← hGe] at HO ⊢
      clear CG HGN hGe
      by_cases hG : 4611686018427387904 < (G : Int)
      · have HN : Aside (openI b name index = none ∧ Sat E w q) := ⟨HGN2.out (by omega), HQ.out.2.1⟩
        clear HO
        go_wp2
        go_ret3
        exact .inl ⟨HN.out.1, rfl, HN.out.2⟩
      · have c17a : (w.alloc (.cells #[] 5)).cell? ⟨g, o + 17, none⟩ = some (.int .u8 (x : Int)) := by
          rw [World.cell?_of_block (w := w) (heap_alloc_old w _ (World.block_lt_of_cell? w _ c17))]; exact c17
        have hpl : ((b.drop 18).take x).length = x := by rw [List.length_take, List.length_drop, HQ.out.2.2.2]; omega
        have cp : Cells w (some ⟨g, o + 18, none⟩) (b8s ((b.drop 18).take x)) := by
          have := ((HQ.out.1 _ HQ.out.2.1).drop 18).take x
          rw [addr_add] at this
          unfold b8s at this ⊢
          rw [List.map_take, List.map_drop]
          exact this
        have hpb : Bytes ((b.drop 18).take x) := fun y hy => HQ.out.2.2.1 y (List.mem_of_mem_drop (List.mem_of_mem_take hy))
        rw [Int.toNat_natCast] at HO
        obtain ⟨p, hp⟩ : ∃ p, p = (b.drop 18).take x := ⟨_, rfl⟩
        rw [← hp] at HO hpl cp hpb
        have HP1 := Aside.mk (And.intro hpl (And.intro cp (And.intro hpb (show (b8s p).length = (18 + x - 18) * 1 by rw [b8s_length, hpl, Nat.mul_one]; omega))))
        clear hpl cp hpb hp
        go_wp2_with (at_builtin; go_loud (refine wpList_append_row slB8 rfl rfl (by rfl) (by rfl) (((HQ.out.2.1.alloc _).right).row_nil _ _ _) (HP1.out.2.1.alloc _) HP1.out.2.2.2 (b8s_one _) (by unfold maxLen; omega) (by omega) (fun v4 w4 hw4 => ?_); have HW4 := Aside.mk hw4; clear hw4))
        have hw4 : Sat E w4 (HP.row 5 1 v4 x (b8s p) * q) := by
          have := HW4.out
          rw [Nat.zero_add, List.nil_append, Nat.add_sub_cancel_left] at this
          exact this
        obtain ⟨A4, c4, rfl, -, -⟩ := hw4.row_slice
        have HW := Aside.mk hw4
        clear HW4 hw4 c17 c17a
        have hx106 : x ≤ 106 := by omega
        by_cases hbad : index < 0 ∨ 2147483647 < index
        · have HN : Aside (openI b name index = none) := ⟨by rw [HO.out, if_pos (.inr (.inr hbad))]⟩
          refine (ref_frame_bad name index G (A4) x c4 w4 (by unfold FrameOk; omega)).mono ?_
          rintro e w5 ⟨rfl, hw5⟩
          subst w5
          clear HO hbad
          go_wp2
          go_ret3
          exact .inl ⟨HN.out, rfl, HW.out.right⟩
        · obtain ⟨ix, rfl⟩ := Int.eq_ofNat_of_zero_le (show 0 ≤ index by omega)
          rw [if_neg (by rw [HQ.out.2.2.2]; intro h; rcases h with h | h | h; exact h rfl; omega; exact hbad h), if_neg (by omega), Int.toNat_natCast] at HO
          refine (ref_frame E _ name ix G A4 p x c4 w4 HNM.out (by omega) (by omega) HP1.out.1 hx106 HP1.out.2.2.1 (fun w h => h.row_cells) HW.out).mono ?_
          rintro e w5 ⟨v, rfl, h5⟩
          obtain ⟨A5, c5, rfl, -, -⟩ := h5.row_slice
          have hIl : (extI name ix G p).length = 128 := extI_length (by rw [HP1.out.1]; exact hx106)
          have hIb : Bytes (extI name ix G p) := extI_bytes (by rw [HP1.out.1]; exact hx106) HP1.out.2.2.1
          obtain ⟨I, hIe⟩ : ∃ I, I = extI name ix G p := ⟨_, rfl⟩
          rw [← hIe] at HO hIl hIb h5
          have e0 := run_string_m (P := Tryz.prog) (c := c5) hIl Tryz.underlying43 Tryz.underlying5 Tryz.underlying9 h5.row_cells
          have e1 := run_string_m (P := Tryz.prog) (c := c) HQ.out.2.2.2 Tryz.underlying43 Tryz.underlying5 Tryz.underlying9 (HQ.out.1 _ h5.right.right)
          have e2 := strOf_eqb hIb HQ.out.2.2.1
          have H5 : Aside (Sat E w5 (HP.row 5 1 (.slice A4 x c4) p.length (b8s p) * q)) := ⟨by rw [HP1.out.1]; exact h5.right⟩
          clear h5 hIe hIl hIb HW hbad
          by_cases hb : I = b
          · rw [decide_eq_true hb] at e2
            have HE : Aside (openI b name ix = some (p, G)) := ⟨by rw [HO.out, if_neg (by simpa using hb)]⟩
            clear HO hb
            generalize strOf I = s0 at *
            generalize strOf b = s1 at *
            go_wp2
            go_ret3
            exact .inr ⟨p, G, _, HE.out, rfl, H5.out⟩
          · rw [decide_eq_false hb] at e2
            have HE : Aside (openI b name ix = none) := ⟨by rw [HO.out, if_pos hb]⟩
            clear HO hb
            generalize strOf I = s0 at *
            generalize strOf b = s1 at *
            go_wp2
            go_ret3
            exact .inl ⟨HE.out, rfl, H5.out.right⟩
  · have HN : Aside (openI b name index = none ∧ Sat E w q) := ⟨by unfold openI; rw [if_pos (.inl (by rw [hbn]; exact hlen))], hw⟩
    have h2 : ¬ (n : Int) = 128 := by omega
    clear hw hq hbn hb
    go_enter Tryz.func96, Tryz.ntmps96
    go_wp2
    go_ret3
    exact .inl ⟨HN.out.1, rfl, HN.out.2⟩
def readO (A : Dk) (f : ByteArray) (i : Int) : List Int := match A.cel f i with | some c => c.read | none => []
def mendL (i g : Nat) (p : List Int) (wrote : Bool) (A : Dk) : List ByteArray → (Bool × Int) × Dk
  | [] => ((wrote, 0), A)
  | f :: r =>
    if readO A f i = extI f i g p then mendL i g p wrote A r
    else if (A.write f i (extI f i g p)).1 = 0 then
      if ((A.write f i (extI f i g p)).2.sync f).1 = 0 then mendL i g p true ((A.write f i (extI f i g p)).2.sync f).2 r
      else ((false, ((A.write f i (extI f i g p)).2.sync f).1), ((A.write f i (extI f i g p)).2.sync f).2)
    else ((false, (A.write f i (extI f i g p)).1), (A.write f i (extI f i g p)).2)
theorem mendL_cons (i g : Nat) (p : List Int) (wrote : Bool) (A : Dk) (f : ByteArray) (r : List ByteArray) : mendL i g p wrote A (f :: r) =
    if readO A f i = extI f i g p then mendL i g p wrote A r
    else if (A.write f i (extI f i g p)).1 = 0 then
      if ((A.write f i (extI f i g p)).2.sync f).1 = 0 then mendL i g p true ((A.write f i (extI f i g p)).2.sync f).2 r
      else ((false, ((A.write f i (extI f i g p)).2.sync f).1), ((A.write f i (extI f i g p)).2.sync f).2)
    else ((false, (A.write f i (extI f i g p)).1), (A.write f i (extI f i g p)).2) := rfl
def mendP (A : Dk) (name : ByteArray) (i : Int) : (Bool × Int) × Dk :=
  if (getP A name i).1 < 0 then ((false, 50), A) else mendL i.toNat (getP A name i).1.toNat (getP A name i).2 false A (halvesL name)
theorem openI_index {b : List Int} {f : ByteArray} {i : Int} {x : List Int × Nat} (h : openI b f i = some x) : 0 ≤ i ∧ i ≤ 2147483647 := by
  unfold openI at h
  split at h
  · cases h
  · rename_i h1
    omega
structure GotOk (i : Int) (st : Int × List Int) : Prop where
  place : 0 ≤ st.1 → 0 ≤ i ∧ i ≤ 2147483647
  gen : st.1 ≤ 4611686018427387904
  len : st.2.length ≤ 106
theorem getF_ok {A : Dk} {i : Int} {st : Int × List Int} {f : ByteArray} (h : GotOk i st) : GotOk i (getF A i st f) := by
  unfold getF
  cases A.cel f i with
  | none => exact h
  | some c =>
    dsimp only
    cases ho : openI c.read f i with
    | none => exact h
    | some x =>
      dsimp only
      split
      · exact h
      · have h1 := openI_gen (p := x.1) (g := x.2) ho
        exact ⟨fun _ => openI_index ho, h1.1, h1.2⟩
theorem getP_ok (A : Dk) (name : ByteArray) (i : Int) : GotOk i (getP A name i) := by
  unfold getP halvesL
  exact getF_ok (getF_ok ⟨fun h => absurd h (by show ¬ (0 : Int) ≤ -1; omega), by show (-1 : Int) ≤ _; omega, by show 0 ≤ 106; omega⟩)
theorem getF_byt {A : Dk} {i : Int} {st : Int × List Int} {f : ByteArray} (hs : Bytes st.2) (hb : ∀ c, A.cel f i = some c → Bytes c.read) : Bytes (getF A i st f).2 := by
  unfold getF
  cases hc : A.cel f i with
  | none => exact hs
  | some c =>
    dsimp only
    cases ho : openI c.read f i with
    | none => exact hs
    | some x =>
      dsimp only
      split
      · exact hs
      · have h := ho
        unfold openI at h
        split at h
        · cases h
        · split at h
          · cases h
          · split at h
            · cases h
            · simp only [Option.some.injEq] at h
              rw [← h]
              exact fun y hy => hb c hc y (List.mem_of_mem_drop (List.mem_of_mem_take hy))
theorem getP_byt {A : Dk} {name : ByteArray} {i : Int} (hb : ∀ f ∈ halvesL name, ∀ c, A.cel f i = some c → Bytes c.read) : Bytes (getP A name i).2 := by
  unfold getP halvesL
  exact getF_byt (getF_byt (fun x hx => by cases hx) (hb _ (List.mem_cons_self ..))) (hb _ (List.mem_cons_of_mem _ (List.mem_cons_self ..)))
theorem readO_of_none {A : Dk} {f : ByteArray} {i : Int} (h : A.cel f i = none) : readO A f i = [] := by unfold readO; rw [h]
theorem readO_of_some {A : Dk} {f : ByteArray} {i : Int} {c : Cel} (h : A.cel f i = some c) : readO A f i = c.read := by unfold readO; rw [h]
theorem slotZ_bytes : Bytes slotZ := fun x hx => by rw [List.eq_of_mem_replicate hx]; omega
theorem readT_bytes (file : Nat) {p : List Int} (h : Bytes p) : Bytes (readT file p).1 := by
  unfold readT
  split
  · intro x hx
    rcases List.mem_append.1 hx with hx | hx
    · exact h x hx
    · rw [List.eq_of_mem_replicate hx]; omega
  · exact slotI_bytes (by rw [List.length_take]; omega) (fun x hx => h x (List.mem_of_mem_take hx))
theorem openI_bytesS {b : List Int} {f : ByteArray} {i : Int} {p : List Int} {g : Nat} (h : openI b f i = some (p, g)) (hb : Bytes b) : Bytes p := by
  unfold openI at h
  split at h
  · cases h
  · split at h
    · cases h
    · split at h
      · cases h
      · simp only [Option.some.injEq, Prod.mk.injEq] at h
        rw [← h.1]
        exact fun x hx => hb x (List.mem_of_mem_drop (List.mem_of_mem_take hx))
theorem readS_bytes {A : Dk} {f : ByteArray} {file : Nat} {gen i : Int} (hb : ∀ c, A.cel f i = some c → Bytes c.read) : Bytes (readS A f file gen i).1 := by
  unfold readS
  split
  · exact slotZ_bytes
  · rename_i c hc
    split
    · exact slotZ_bytes
    · rename_i x hx
      split
      · exact slotZ_bytes
      · exact readT_bytes file (openI_bytesS (p := x.1) (g := x.2) hx (hb c hc))
theorem atOk_plain {E : Env} {A : Dk} {x : ByteArray} {gen : Int} (hb : ∀ k, k < 4 → ∀ (i : Int) c, A.cel (stripeF x k) i = some c → Bytes c.read) (hp : ∀ i k : Nat, k < 3 → (slotOf A x gen i k).2 = true ∨ 1 < badN A x gen i 4) : AtOk E A x gen (fun i k => atP A x gen i k) := by
  refine ⟨fun q' b G R n i k w hk hG hw => stripe_at_plain E q' b A x gen i G R n k w (by omega) hG ?_ hw, fun i k => ?_, fun i k hk => ?_⟩
  · rcases hp i k hk with h | h
    · exact .inl h
    · exact .inr (by rw [hG.bad]; exact h)
  · unfold atP
    split
    · exact readS_length _ _ _ _ _
    · rfl
  · unfold atP
    split
    · exact readS_bytes (hb k (by omega) i)
    · exact slotZ_bytes
theorem stRead_at {E : Env} {B : Dk} {x : ByteArray} {gen : Nat} {l : List Int} (h : StRead B x gen l) : AtOk E B x gen (fun i k => atP B x gen i k) ∧ AtText l (fun i k => atP B x gen i k) ∧ ∀ i k, k < 3 → i < groupsN l.length → (atP B x gen i k).2 = true := by
  refine ⟨atOk_plain h.bytes fun i k hk => ?_, ⟨fun i k hk hr => ?_⟩, fun i k hk hi => ?_⟩
  · rcases Nat.lt_or_ge i (groupsN l.length) with hi | hi
    · exact .inl (by rw [h.right i k (by omega) hi])
    · exact .inr (by rw [badN_all 4 (fun j hj => by rw [h.none i j hj hi])]; decide)
  · unfold atP at hr ⊢
    split at hr
    · rename_i h2
      rw [if_pos h2]
      rcases Nat.lt_or_ge i (groupsN l.length) with hi | hi
      · rw [h.right i k (by omega) hi]
        unfold slotT
        rw [if_neg (by omega)]
      · rw [h.none i k (by omega) hi] at h2
        cases h2
    · cases hr
  · unfold atP
    rw [h.right i k (by omega) hi]
    rfl
set_option maxHeartbeats 2000000 in
set_option maxRecDepth 100000 in
theorem awake6_ok (E : Env) (q : HP) (w : World) (hq : ∀ w, Sat E w q → Quarter w) (hw : Sat E w q) :
    Calls Tryz.prog 25 #[] w fun e w' => e = .returned (.bool true) ∧ Sat E w' q := by
  have hx3 : exS.size + 2 ≤ maxLen := by show 3 ≤ maxLen; unfold maxLen; omega
  have HX3 := Aside.mk hx3
  have hb2 : Bytes [97, 98] := by intro x hx; simp at hx; omega
  obtain ⟨B, hB⟩ := storeS_new (room := 10) (x := exS) (gen := 1) (l := [97, 98]) fourX (by omega) (by decide) (by decide)
  have hR := stRead_of hB (by omega) (by decide) hb2
  have HB := Aside.mk (And.intro hB.eq hR)
  have HQ := Aside.mk (And.intro hq hw)
  have HB2 := Aside.mk hb2
  obtain ⟨ha, ht, hr⟩ := stRead_at (E := E) hR
  have HA := Aside.mk ha
  have hpm := partM_read ht hr (fr := 0) (en := 2) (by omega) (by decide)
  have HPM : Aside (partM (fun i k => atP B exS 1 i k) (0 + 2) 0 (0 + 2) [] = some [97, 98]) := ⟨hpm⟩
  clear hx3 hB hR hq hw hb2 ha ht hr hpm
  go_enter Tryz.func25, Tryz.ntmps25
  go_wp2_with fail
  refine (disk_new_ok E q 10 _ ⟨by omega, by omega⟩ HQ.out.2).mono ?_
  rintro e w1 ⟨d, rfl, h1⟩
  have h2 := h1.alloc (.cells #[.int .u8 97, .int .u8 98] 5 (2, 3))
  have H2 : Aside (Sat E (w1.alloc (.cells #[.int .u8 97, .int .u8 98] 5 (2, 3))) (HP.disk d (Dk.new 10) * (HP.pt w1.heap.size (.cells (b8s [97, 98]).toArray 5 (2, 3)) * q))) := ⟨h2.perm (by ac_rfl)⟩
  have HQ2 : Aside (∀ w, Sat E w (HP.pt w1.heap.size (.cells (b8s [97, 98]).toArray 5 (2, 3)) * q) → Quarter w ∧ Cells w (some ⟨w1.heap.size, 0, none⟩) (b8s [97, 98])) := ⟨fun w h => ⟨HQ.out.1 w h.right, h.ptCells rfl⟩⟩
  have cv : (convert 43 43 (.slice (some ⟨w1.heap.size, 0, none⟩) 2 2)).run Tryz.prog (w1.alloc (.cells #[.int .u8 97, .int .u8 98] 5)) = .ok (.slice (some ⟨w1.heap.size, 0, none⟩) 2 2) (w1.alloc (.cells #[.int .u8 97, .int .u8 98] 5 (2, 3))) := Lib.run_convert_bytes_const w1 _ _ #[.int .u8 97, .int .u8 98] 2 2 Tryz.underlying43 Tryz.underlying5
  have HL : Aside ((2 : Nat) ≤ maxLen) := ⟨by unfold maxLen; omega⟩
  clear h1 h2
  go_wp2_with fail
  refine (stripe_store E _ d (Dk.new 10) exS 1 (some ⟨w1.heap.size, 0, none⟩) [97, 98] 2 2 _ HX3.out (by omega) rfl (by omega) HL.out (by omega) HB2.out HQ2.out H2.out).mono ?_
  rintro e w2 ⟨rfl, h2⟩
  rw [HB.out.1] at h2 ⊢
  have H3 : Aside (Sat E w2 (HP.disk d B * q)) := ⟨h2.perm (by ac_rfl : _ = HP.pt w1.heap.size (.cells (b8s [97, 98]).toArray 5 (2, 3)) * (HP.disk d B * q)) |>.right⟩
  clear h2 H2 HQ2
  go_wp2_with fail
  refine (stripe_part E q d B exS 1 0 2 (fun i k => atP B exS 1 i k) _ HX3.out (by omega) (by omega) HB.out.2.bytes HA.out HQ.out.1 H3.out).mono ?_
  intro e w3 h3
  rw [HPM.out] at h3
  obtain ⟨v, rfl, h3⟩ := h3
  obtain ⟨Av, cv, rfl, -, -⟩ := h3.row_slice
  have e0 : (convert 43 9 (.slice Av 2 cv)).run Tryz.prog w3 = .ok (.string ⟨#[97, 98]⟩) w3 := run_string (P := Tryz.prog) (c := cv) Tryz.underlying43 Tryz.underlying5 Tryz.underlying9 h3.row_cells
  have H4 := Aside.mk h3
  clear h3 H3
  go_wp2
  go_ret
  exact ⟨rfl, H4.out.right.right⟩
set_option maxHeartbeats 1000000 in
set_option maxRecDepth 100000 in
theorem bytesClone_ok (E : Env) (q : HP) (A : Option Addr) (l : List Int) (n c : Nat) (w : World) (hn : l.length = n) (hl : n ≤ 140737488351232) (hw : Sat E w q) (hc : Cells w A (b8s l)) :
    Calls Tryz.prog 13 #[.slice A n c] w fun e w' => ∃ v, e = .returned v ∧ Sat E w' (HP.row 5 1 v n (b8s l) * q) := by
  go_enter Tryz.func13, Tryz.ntmps13
  cases A with
  | none =>
    have hl0 : l = [] := by
      cases l with
      | nil => rfl
      | cons x l => obtain ⟨a, ha, _⟩ := hc.at_ 0 (by simp [b8s]); cases ha
    subst hl0
    obtain rfl : n = 0 := by simpa using hn.symm
    have hnil := Lib.run_eql_slice_nil (P := Tryz.prog) w 43 5 none 0 c 0 0 Tryz.underlying43
    go_wp2
    go_ret
    exact ⟨_, rfl, hw.row_nil _ _ _⟩
  | some a =>
    have hil : (b8s l).length = n * 1 := by simp [b8s, hn]
    have hall : (b8s l).all Value.oneCell' = true := by simp [b8s, Value.oneCell']
    have HH := Aside.mk (And.intro hw (And.intro hc (And.intro hil hall)))
    clear hw hc hil hall hn
    have hnil := Lib.run_eql_slice_nil (P := Tryz.prog) w 43 5 (some a) n c 0 0 Tryz.underlying43
    go_wp2_with (at_builtin; refine wpList_append_row slB8 rfl rfl (by rfl) (by rfl) (((HH.out.1.alloc _).right).row_nil _ _ _) (HH.out.2.1.alloc _) HH.out.2.2.1 HH.out.2.2.2 (by unfold maxLen; omega) (by omega) (fun v4 w4 hw4 => ?_))
    go_ret
    refine ⟨_, rfl, ?_⟩
    simpa using hw4
set_option maxHeartbeats 1000000 in
set_option maxRecDepth 100000 in
theorem full_ok (E : Env) (q : HP) (s : StepV) (w : World) (hl : s.b.l.length ≤ s.b.cap) (hq : ∀ E w, Sat E w q → Cells w s.b.A (b8s s.b.l)) (hw : Sat E w q) :
    Calls Tryz.prog 77 #[.agg s.vals.toArray] w fun e w' => ∃ g, e = .returned (.slice (some ⟨g, 0, none⟩) 128 128) ∧ Sat E w' (HP.row 5 1 (.slice (some ⟨g, 0, none⟩) 128 128) 128 (b8s (fullOf s.b.l)) * q) := by
  unfold StepV.vals Sl.val
  go_enter Tryz.func77, Tryz.ntmps77
  have h1 := hw.alloc (.cells #[.int .i64 s.op, .int .i64 s.i, .int .i64 s.at_, .int .i64 s.n, .string s.name, .slice s.b.A s.b.l.length s.b.cap, .int .u8 s.mask, .slice s.kept.A s.kept.l.length s.kept.cap] 46)
  have HH := Aside.mk (And.intro h1 (And.intro hl hq))
  clear hw h1 hl hq
  go_wp2_with (first
    | (refine wpList_make_row (n := 128) slB8 rfl rfl rfl rfl rfl HH.out.1 (by unfold maxLen; omega) (by omega) (fun g w2 hw2 => ?_); have g5 := (hw2.s2).cell 5; simp only [List.getElem?_toArray, List.getElem?_cons_zero, List.getElem?_cons_succ] at g5; have HW2 := Aside.mk hw2; clear hw2)
    | (at_builtin; fail)
    | (refine wpList_copy_sat Tryz.underlying43 (by kernel_rfl) rfl rfl rfl rfl HW2.out (b8s_length _) (HH.out.2.2 _ _ HW2.out.right.right) (b8s_one _) (fun w3 hw3 => ?_); have HW3 := Aside.mk hw3; clear hw3))
  go_ret
  refine ⟨g, rfl, ?_⟩
  have h9 := HW3.out.drop2
  rw [full_cells] at h9
  exact h9
end Go.Proofs.YtnpinegpajbkeaaGreatDoor
namespace Go.Proofs.YtnpinegpajbkeaaGreatDoor
open Go.ChangeShapes Go.WideShapes Go.ChangeAt Go.RowKit
def Rd.AtZ {α : Type} (r : Rd α) (z : α → List Nat) (P : Program) (t : TypeId) : Prop :=
  ∀ {H : Type} {enc : TypeId × Value → H} {W : World} {fuel : Nat} {cs : List Value} {x : DataW H × List MemPlace}, DataW.trod enc P W 0 (fun _ => true) true fuel t cs = some x → (∀ n ∈ x.1.weights P t, n ≤ reachBytes) → ∃ a, cs = r.cells a ∧ r.ok W a ∧ ∀ n ∈ z a, n ≤ reachBytes
section
variable {P : Program} {t : TypeId}
theorem Rd.At.toZ {α : Type} {r : Rd α} (h : r.At P t) : r.AtZ (fun _ => []) P t := by
  intro H enc W fuel cs x hx _
  obtain ⟨a, h1, h2⟩ := h hx
  exact ⟨a, h1, h2, fun n hn => by cases hn⟩
theorem rdStr_atZ (ht : P.underlying t = some .string) : rdStr.AtZ (fun s => [s.size]) P t := by
  intro H enc W fuel cs x h hz
  obtain ⟨n, rfl, rfl, hw⟩ := DataW.trod_string ht h
  refine ⟨n, rfl, hw, fun k hk => ?_⟩
  obtain rfl := List.mem_singleton.1 hk
  refine hz _ ?_
  simp [DataW.weights]
theorem weightsAll_mem {H : Type} {e : TypeId} {n : Nat} : ∀ {l : List (DataW H)} {d : DataW H}, d ∈ l → n ∈ d.weights P e → n ∈ DataW.weightsAll P e l
  | [], d, h, _ => by cases h
  | x :: l, d, h, hn => by
    simp only [DataW.weightsAll, List.mem_append]
    rcases List.mem_cons.1 h with rfl | h
    · exact .inl hn
    · exact .inr (weightsAll_mem h hn)
theorem weightsEach_mem {H : Type} {n : Nat} : ∀ {ts : List TypeId} {l : List (DataW H)} {i : Nat} {u : TypeId} {d : DataW H}, ts[i]? = some u → l[i]? = some d → n ∈ d.weights P u → n ∈ DataW.weightsEach P ts l
  | [], _, i, _, _, h, _, _ => by simp at h
  | _ :: _, [], i, _, _, _, h, _ => by simp at h
  | v :: ts, x :: l, 0, u, d, h1, h2, hn => by
    simp only [List.getElem?_cons_zero, Option.some.injEq] at h1 h2
    subst h1
    subst h2
    simp only [DataW.weightsEach, List.mem_append]
    exact .inl hn
  | v :: ts, x :: l, i + 1, u, d, h1, h2, hn => by
    simp only [DataW.weightsEach, List.mem_append]
    exact .inr (weightsEach_mem (by simpa using h1) (by simpa using h2) hn)
theorem rdSl_atZ {α : Type} {r : Rd α} {z : α → List Nat} {e : TypeId} {n b : Nat} (ht : P.underlying t = some (.slice e)) (hc : P.cellsOf e = n) (hb : P.bytesOf e = b) (hr : r.AtZ z P e) : (rdSl r).AtZ (fun s => s.cap * b :: s.l.flatMap z) P t := by
  intro H enc W fuel cs x h hz
  rcases Go.Deep.open_slice ht h with ⟨rfl, -⟩ | ⟨a, len, cap, m, n', D, Pl, rfl, -, hl, hm, hmm, rfl, hi⟩
  · refine ⟨⟨none, 0, []⟩, rfl, ⟨Nat.le_refl _, Nat.zero_le _, Cells.nil _ _, fun x hx => by cases hx⟩, fun k hk => ?_⟩
    simp at hk
    subst hk
    exact Nat.zero_le _
  · have hmc : m = cap := by rw [hmm]; simp
    have hml : len ≤ m := by omega
    have hw : ∀ k, k = m * b ∨ (∃ i, i < len ∧ k ∈ (D i).weights P e) → k ≤ reachBytes := by
      intro k hk
      refine hz k ?_
      simp only [DataW.weights, ht, List.mem_cons, List.mem_append]
      rcases hk with rfl | ⟨i, hil, hk⟩
      · refine .inl ?_
        rw [List.length_map, List.length_range, List.length_map, List.length_range, hb]
        congr 1
        omega
      · exact .inr (.inl (weightsAll_mem (List.mem_map.2 ⟨i, List.mem_range.2 hil, rfl⟩) hk))
    obtain ⟨l, hll, hp⟩ := choose_list len (fun i x => (r.ok W x ∧ W.cells? 0 (a.add (i * n)) n = some (r.cells x)) ∧ ∀ k ∈ z x, k ≤ reachBytes) fun i hil => by
      obtain ⟨cs', h1, h2⟩ := hi i (by omega)
      obtain ⟨x, rfl, hx, hzx⟩ := hr h2 (fun k hk => hw k (.inr ⟨i, hil, hk⟩))
      rw [hc] at h1
      exact ⟨x, ⟨hx, h1⟩, hzx⟩
    have hlen : ∀ x ∈ l, (r.cells x).length = n := fun x hx => by
      obtain ⟨i, hi'⟩ := List.getElem?_of_mem hx
      exact (World.cells?_some (hp i x hi').1.2).2.1
    refine ⟨⟨some a, cap, l⟩, by simp [rdSl, Sl.val, hll], ⟨by simpa [hll] using hl, hm, fun j u hj => ⟨a, rfl, ?_⟩, fun x hx => ?_⟩, fun k hk => ?_⟩
    · obtain ⟨i, k, x, h1, h2, h3, h4⟩ := flat_at r.cells n l hlen j u hj
      have h5 := (World.cells?_some (hp i x h1).1.2).2.2 k h2
      rw [h4, Cells.add_add] at h5
      rw [h3]; exact h5
    · obtain ⟨i, hi'⟩ := List.getElem?_of_mem hx
      exact (hp i x hi').1.1
    · rcases List.mem_cons.1 hk with rfl | hk
      · exact hw _ (.inl (by rw [hmc]))
      · obtain ⟨x, hx, hkx⟩ := List.mem_flatMap.1 hk
        obtain ⟨i, hi'⟩ := List.getElem?_of_mem hx
        exact (hp i x hi').2 k hkx
def Rd.FsZ {α : Type} (r : Rd α) (z : α → List Nat) (P : Program) (fs : List Field) (off total : Nat) : Prop :=
  ∀ {H : Type} {enc : TypeId × Value → H} {W : World} {n : Nat} {cs : List Value}, (∀ f ∈ fs, ∃ y, DataW.trod enc P W 0 (fun _ => true) true n f.type ((cs.drop f.offset).take (P.cellsOf f.type)) = some y ∧ ∀ k ∈ y.1.weights P f.type, k ≤ reachBytes) → off + total = cs.length →
    ∃ a, cs.drop off = r.cells a ∧ r.ok W a ∧ ∀ n ∈ z a, n ≤ reachBytes
theorem rdEnd_fsZ (off : Nat) : rdEnd.FsZ (fun _ => []) P [] off 0 := by
  intro H enc W n cs _ h
  exact ⟨(), by simp [rdEnd]; omega, trivial, fun n hn => by cases hn⟩
theorem rdPair_fsZ {α β : Type} {r : Rd α} {s : Rd β} {zr : α → List Nat} {zs : β → List Nat} {f : Field} {fs : List Field} {off size total : Nat} (hoff : f.offset = off) (hsz : P.cellsOf f.type = size) (hr : r.AtZ zr P f.type) (hs : s.FsZ zs P fs (off + size) total) : (rdPair r s).FsZ (fun x => zr x.1 ++ zs x.2) P (f :: fs) off (size + total) := by
  intro H enc W n cs h hl
  obtain ⟨y, hy, hyz⟩ := h f (by simp)
  obtain ⟨a, ha, hoa, hza⟩ := hr hy hyz
  obtain ⟨b, hb, hob, hzb⟩ := hs (fun g hg => h g (by simp [hg])) (by omega)
  refine ⟨(a, b), ?_, ⟨hoa, hob⟩, fun k hk => ?_⟩
  · show cs.drop off = r.cells a ++ s.cells b
    rw [← ha, ← hb, hoff, hsz, ← List.drop_drop, List.take_append_drop]
  · rcases List.mem_append.1 hk with hk | hk
    · exact hza k hk
    · exact hzb k hk
theorem rdStruct_atZ {α β : Type} {r : Rd α} {z : α → List Nat} {fs : Array Field} {total : Nat} (ht : P.underlying t = some (.struct fs)) (hc : P.cellsOf t = total) (hr : r.FsZ z P fs.toList 0 total) (f : α → β) (g : β → α) (hg : ∀ a, g (f a) = a) : (rdMap r f g hg).AtZ (fun b => z (g b)) P t := by
  intro H enc W fuel cs x h hz
  obtain ⟨xs, n, -, rfl, hl, hxl, hf⟩ := DataW.trod_struct ht h
  obtain ⟨a, ha, hoa, hza⟩ := hr (W := W) (n := n) (cs := cs) (fun fd hfd => by
    obtain ⟨i, hi⟩ := List.getElem?_of_mem hfd
    have hi' : fs[i]? = some fd := by simpa using hi
    have h1 := hf i fd hi'
    have hlt : i < xs.length := by rw [hxl]; exact (Array.getElem?_eq_some_iff.1 hi').1
    rw [List.getElem?_eq_getElem hlt] at h1
    refine ⟨_, h1, fun k hk => hz k ?_⟩
    simp only [DataW.weights, ht]
    exact weightsEach_mem (i := i) (u := fd.type) (d := xs[i].1) (by rw [List.getElem?_map, hi]; rfl) (by rw [List.getElem?_map, List.getElem?_eq_getElem hlt]; rfl) hk) (by omega)
  refine ⟨f a, ?_, ?_, ?_⟩
  · show cs = r.cells (g (f a))
    rw [hg, ← ha, List.drop_zero]
  · show r.ok W (g (f a))
    rw [hg]; exact hoa
  · show ∀ n ∈ z (g (f a)), n ≤ reachBytes
    rw [hg]; exact hza
theorem sl_argZ {α : Type} {r : Rd α} {z : Sl α → List Nat} {e : TypeId} {base : Nat} (ht : P.underlying t = some (.slice e)) (hr : (rdSl r).AtZ z P t) {H : Type} {enc : TypeId × Value → H} {W : World} {v : Value} {d0 : DataW H} {p : List MemPlace} (hv : Value.okWide P W .any base t v) (h0 : DataW.Trod enc P W 0 (fun _ => true) true t v d0 p) (hz : ∀ n ∈ d0.weights P t, n ≤ reachBytes) : ∃ s : Sl α, v = s.val ∧ (rdSl r).ok W s ∧ ∀ n ∈ z s, n ≤ reachBytes := by
  obtain ⟨a0, len, cap, rfl⟩ := okWide_slice ht hv
  obtain ⟨fuel, hf⟩ := h0
  obtain ⟨s, hs, ho, hzs⟩ := hr hf hz
  refine ⟨s, ?_, ho, hzs⟩
  have : [Value.slice a0 len cap] = [s.val] := hs
  simpa using this
end
end Go.Proofs.YtnpinegpajbkeaaGreatDoor
namespace Go.Proofs.YtnpinegpajbkeaaGreatDoor
open Go.ChangeShapes Go.WideShapes Go.ChangeAt Go.WideMaps Go.WideElems Go.RowKit HP
def laidAll : List (String × DataW Unit) := [("dryrot/crc.quarter", Rows.laid_dryrot_crc_quarter)]
theorem gQuarter : Tryz.prog.globalNamed "dryrot/crc.quarter" = some 1 := by kernel_rfl
theorem tQuarter : (Tryz.prog.globals[1]?).map (·.type) = some 247 := by kernel_rfl
end Go.Proofs.YtnpinegpajbkeaaGreatDoor
namespace Go.Proofs.YtnpinegpajbkeaaGreatDoor
open Go.ChangeShapes Go.WideShapes Go.ChangeAt Go.RowKit HP
theorem old_carry {E : Env} {W w : World} (h : Sat E w (HP.old W)) : ∀ k, k < W.heap.size → w.heap[k]? = W.heap[k]? := fun k hk => Sat.old_block (p := HP.emp) (by rw [HP.mul_emp]; exact h) k hk
theorem quarter_old {E : Env} {W w : World} (hQ : Quarter W) (h : Sat E w (HP.old W)) : Quarter w := fun i hi => by
  rw [World.cell?_of_block (w := W) (old_carry h _ (World.block_lt_of_cell? W _ (hQ i hi)))]
  exact hQ i hi
end Go.Proofs.YtnpinegpajbkeaaGreatDoor
