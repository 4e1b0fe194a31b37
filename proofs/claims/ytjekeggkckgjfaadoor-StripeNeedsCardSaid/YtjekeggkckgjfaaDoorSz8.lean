/- Texts of one claim, one behind the other: AppZ, StR, StL, StM, StAt, StPm, StPa, StAw, StTwP, StMe, StPaW. -/
import Derived.Test.YtjekeggkckgjfaaDoorSz7
import Derived.Lib.AppendZerosOnto
import Derived.Lib.SlBytesConst
import Derived.Laws.Bits64
/- 'append(v, make([]T, k)...)' at a row of one's own: the builtin gets the number. -/
namespace Go.Proofs.YtjekeggkckgjfaaDoor
open Go.RowKit HP
set_option linter.unusedSimpArgs false
set_option linter.unusedVariables false

theorem zeros_one (z : Value) (n : Nat) (h : z.cells = #[z]) : Builtin.zeroCells z.cells n = (List.replicate n z).toArray := by
  unfold Builtin.zeroCells
  rw [h]
  apply Array.ext
  · simp
  · intro i h1 h2
    simp [Nat.mod_one]
theorem run_append_zeros {P : Program} {E : Env} {q : HP} {w : World} {v : Value} {n : Nat} {cs : List Value} {e t tn ty : TypeId} {i : TypeInfo} {z : Value} {kq kn : IntKind} {bytes : Nat} (ht : P.underlying t = some (.slice e)) (htn : P.underlying tn = some (.int kn)) (hi : P.info? e = some i) (hz : i.zero = some z)
    (hsize : i.size = 1) (hby : i.bytes = bytes) (hz1 : z.cells = #[z]) (hz2 : z.oneCell' = true)
    (h : Sat E w (row e 1 v n cs * q)) (k : Nat) (h0 : 0 < k) (h63 : n + k ≤ maxLen) (hbytes : (n + k) * bytes ≤ 140737488355328) :
    ∃ v' w', (Builtin.append_ #[t, tn] ty #[v, .int kq k]).run P w = .ok v' w' ∧ Sat E w' (row e 1 v' (n + k) (cs ++ List.replicate k z) * q) := by
  subst hby
  have hsmall : n + k ≤ 9223372036854775807 := by simp only [maxLen] at h63; omega
  have hcl := h.row_cases.1
  rw [Nat.mul_one] at hcl
  have hlen : (cs ++ List.replicate k z).length = n + k := by rw [List.length_append, hcl, List.length_replicate]
  have hkb : k * i.bytes ≤ 140737488355328 := by
    rw [Nat.add_mul] at hbytes
    omega
  have grown : ∀ (old : Nat), old < n + k → Sat E w q →
      Sat E (w.drew.alloc (.cells (cs.toArray ++ Builtin.zeroCells z.cells k ++ Builtin.zeroCells z.cells (grownCap w (n + k) old e - (n + k))) e)) (row e 1 (.slice (some ⟨w.heap.size, 0, none⟩) (n + k) (grownCap w (n + k) old e)) (n + k) (cs ++ List.replicate k z) * q) := by
    intro old ho hq
    have hge := grownCap_ge w (n + k) old e
    have hcm : grownCap w (n + k) old e ≤ maxLen := grownCap_le_maxLen w (n + k) old e h63
    have hs := Sat.row_mk (n := n + k) (cap := grownCap w (n + k) old e) (off := 0) (size := 1) (cs := cs ++ List.replicate k z) (hq.drew.alloc (.cells (cs.toArray ++ Builtin.zeroCells z.cells k ++ Builtin.zeroCells z.cells (grownCap w (n + k) old e - (n + k))) e)) hge hcm ?_ ?_
    · simpa using hs
    · simp only [Array.size_append, List.size_toArray, zeros_one z _ hz1, List.length_replicate, hcl]
      omega
    · rw [zeros_one z _ hz1, zeros_one z _ hz1]
      simp only [Array.toList_append, Nat.zero_mul, List.drop_zero, Nat.mul_one, ← hlen]
      exact List.take_left
  rcases h.row_cases.2 with ⟨B, hv, hn, hq⟩ | ⟨g, off, cap, cur, hv, hnc, hcm, hs, htk, hp⟩
  · subst hv
    subst hn
    have hx : cs = [] := List.eq_nil_of_length_eq_zero hcl
    subst hx
    have hgr := grown 0 (by omega) hq
    cases B with
    | none =>
      have hr := Lib.run_append_nil_zeros (P := P) w t tn ty e i z kq kn ht htn hi hz k h0 (by omega) (by omega) (by omega)
      simp only [Nat.zero_add, List.nil_append, Array.empty_append] at hgr ⊢
      exact ⟨_, _, hr, hgr⟩
    | some b =>
      have hold : (Builtin.firstCells i.size 0 (.slice (some b) 0 0)).run P w.drew = .ok ([] : List Value).toArray w.drew := by
        simp [Builtin.firstCells, loadCells, loadCellsFrom]
      have hr := Lib.run_append_grow_zeros (P := P) w t tn ty e i z kq kn ht htn hi hz (some b) 0 0 [] hold k h0 (by omega) (by omega) (by omega) (by omega) (growslice_fits (by omega) (by simpa using hbytes))
      simp only [Nat.zero_add, List.nil_append, Array.empty_append] at hgr hr ⊢
      exact ⟨_, _, hr, hgr⟩
  · subst hv
    simp only [Nat.mul_one] at hs htk h ⊢
    have hcells : ∀ j u, cs[j]? = some u → w.cell? ((⟨g, off, none⟩ : Addr).add j) = some u := h.row_cells.some_
    by_cases hroom : n + k ≤ cap
    · have hfit : off + n + (List.replicate k z).length ≤ cur.size := by rw [List.length_replicate]; omega
      have hst := run_storeCells_at P g (off + n) e (List.replicate k z) 0 cur w hp.get (by simpa using hfit) (fun u hu => by rw [List.eq_of_mem_replicate hu]; exact hz2)
      simp only [Nat.add_zero] at hst
      have hneg : ¬ ((k : Int) < 0) := by omega
      have hk63 : IntKind.i64.wrap (k : Int) = k := by rw [IntKind.wrap_i64]; omega
      have h48i : ¬ (281474976710656 < (k : Int) * (i.bytes : Int)) := by
        rw [← Int.natCast_mul]
        omega
      have hkn : k ≠ 0 := by omega
      refine ⟨.slice (some ⟨g, off, none⟩) (n + k) cap, w.setRow g (cur.toList.take (off + n) ++ List.replicate k z ++ cur.toList.drop (off + n + (List.replicate k z).length)).toArray, ?_, ?_⟩
      · simp [Builtin.append_, run_underlying ht, run_underlying htn, sizeOf, typeInfo, zeroValue, hi, hz, asInt, asIntOf, hk63, hneg, h48i, hsize, hkn, hroom, Addr.add_lit, zeros_one z _ hz1, hst]
      · have ht' := hp.turn (w' := w.setRow g (cur.toList.take (off + n) ++ List.replicate k z ++ cur.toList.drop (off + n + (List.replicate k z).length)).toArray) (o' := .cells (cur.toList.take (off + n) ++ List.replicate k z ++ cur.toList.drop (off + n + (List.replicate k z).length)).toArray e) ⟨rfl, rfl, rfl, by simp⟩
          (setRow_heap w g cur _ e _ hp.get) (fun j hj _ => setRow_other w g j _ hj)
        have hm := ht'.row_mk (off := off) (size := 1) (n := n + k) (cap := cap) (cs := cs ++ List.replicate k z) hroom hcm ?_ ?_
        · simpa using hm
        · simp only [List.size_toArray, List.length_append, List.length_take, List.length_drop, Array.length_toList, List.length_replicate]
          omega
        · have := splice_take cur.toList (List.replicate k z) off n (by simpa using hfit)
          rw [htk, List.length_replicate] at this
          simp only [Nat.mul_one, List.length_replicate]
          exact this
    · have hold : (Builtin.firstCells i.size n (.slice (some ⟨g, off, none⟩) n cap)).run P w.drew = .ok cs.toArray w.drew := by
        have := run_firstCells_some (P := P) w.drew i.size n ⟨g, off, none⟩ n cap cs (by rw [hsize, hcl]; omega) (fun j u hj => hcells j u hj)
        exact this
      have hr := Lib.run_append_grow_zeros (P := P) w t tn ty e i z kq kn ht htn hi hz (some ⟨g, off, none⟩) n cap cs hold k h0 (by omega) (by omega) (by omega) (by omega) (growslice_fits (by omega) hbytes)
      exact ⟨_, _, hr, grown cap (by omega) hp.right⟩
theorem wpList_append_zeros {P : Program} {E : Env} {q : HP} {w : World} {v : Value} {n : Nat} {cs : List Value} {e t tn : TypeId} {z : Value} {kq kn : IntKind} {bytes : Nat} {ops : Array Oper} {rest : List Oper} {o : Oper} {a : Act} {Q : Exit → Act → World → Prop} {s x : Operand} (T : SlTy P t e z 1 bytes) (htn : P.underlying tn = some (.int kn)) (hz1 : z.cells = #[z]) (hz2 : z.oneCell' = true) (hgd : o.guard = none)
    (ho : o.op = .call { callee := .builtin .append, args := #[s, x], argTypes := #[t, tn] }) {k : Nat} (hs : a.eval s = v) (hx : a.eval x = .int kq k)
    (h : Sat E w (row e 1 v n cs * q)) (h0 : 0 < k) (h63 : n + k ≤ maxLen) (hbytes : (n + k) * bytes ≤ 140737488355328)
    (hk : ∀ v' w', Sat E w' (row e 1 v' (n + k) (cs ++ List.replicate k z) * q) → wpList P ops Q rest (a.put o.dst v') w') : wpList P ops Q (o :: rest) a w := by
  obtain ⟨i, hi, hz, hsize, hby⟩ := info_parts T.info
  obtain ⟨v', w', hr, h2⟩ := run_append_zeros (P := P) (ty := o.type) (kq := kq) T.under htn hi hz hsize hby hz1 hz2 h k h0 h63 hbytes
  exact Lib.wpList_append_run w hgd s x t tn ho v (.int kq k) hs hx v' w' hr (hk v' w' h2)
theorem run_append_zeros0 {P : Program} {E : Env} {q : HP} {w : World} {v : Value} {n : Nat} {cs : List Value} {e t tn ty : TypeId} {i : TypeInfo} {z : Value} {kq kn : IntKind} {bytes : Nat} (ht : P.underlying t = some (.slice e)) (htn : P.underlying tn = some (.int kn)) (hi : P.info? e = some i) (hz : i.zero = some z)
    (hsize : i.size = 1) (hby : i.bytes = bytes) (h : Sat E w (row e 1 v n cs * q)) : (Builtin.append_ #[t, tn] ty #[v, .int kq 0]).run P w = .ok v w := by
  obtain ⟨A, c, rfl, hnc, hcm⟩ := h.row_slice
  have hw0 : IntKind.i64.wrap 0 = 0 := by rw [IntKind.wrap_i64]; omega
  cases A <;> simp [Builtin.append_, run_underlying ht, run_underlying htn, sizeOf, typeInfo, zeroValue, hi, hz, asInt, asIntOf, hsize, hnc, hw0, storeCells]
theorem wpList_append_zeros_any {P : Program} {E : Env} {q : HP} {w : World} {v : Value} {n : Nat} {cs : List Value} {e t tn : TypeId} {z : Value} {kq kn : IntKind} {bytes : Nat} {ops : Array Oper} {rest : List Oper} {o : Oper} {a : Act} {Q : Exit → Act → World → Prop} {s x : Operand} (T : SlTy P t e z 1 bytes) (htn : P.underlying tn = some (.int kn)) (hz1 : z.cells = #[z]) (hz2 : z.oneCell' = true) (hgd : o.guard = none)
    (ho : o.op = .call { callee := .builtin .append, args := #[s, x], argTypes := #[t, tn] }) {k : Nat} (hs : a.eval s = v) (hx : a.eval x = .int kq k)
    (h : Sat E w (row e 1 v n cs * q)) (h63 : n + k ≤ maxLen) (hbytes : (n + k) * bytes ≤ 140737488355328)
    (hk : ∀ v' w', Sat E w' (row e 1 v' (n + k) (cs ++ List.replicate k z) * q) → wpList P ops Q rest (a.put o.dst v') w') : wpList P ops Q (o :: rest) a w := by
  rcases Nat.eq_zero_or_pos k with h0 | h0
  · subst h0
    obtain ⟨i, hi, hz, hsize, hby⟩ := info_parts T.info
    have hr := run_append_zeros0 (P := P) (ty := o.type) (kq := kq) T.under htn hi hz hsize hby h
    exact Lib.wpList_append_run w hgd s x t tn ho v (.int kq 0) hs hx v w hr (hk v w (by simpa using h))
  · exact wpList_append_zeros T htn hz1 hz2 hgd ho hs hx h h0 h63 hbytes hk
end Go.Proofs.YtjekeggkckgjfaaDoor
/- stripe.read. -/
namespace Go.Proofs.YtjekeggkckgjfaaDoor
open Go.RowKit HP
set_option linter.unusedSimpArgs false
set_option linter.unusedVariables false

theorem results_ct {P : Program} {fn : Func} {t u : Tmp} {ty : TypeId} (h : fn.results = #[.cell t ty, .tmp u]) {tmps : Array Value} {w : World} {a : Addr} {V : Value} (ha : tmps.getD t undef = .pointer (some a)) (hr : (loadVar ty a).run P w = .ok V w) : (results fn tmps).run P w = .ok (.tuple #[V, tmps.getD u undef]) w := by
  have ha' : tmps[t]?.getD undef = .pointer (some a) := by simpa using ha
  unfold results
  rw [h]
  simp [ha', asAddr, hr]
def slotZ : List Int := List.replicate 106 0
def readT (file : Nat) (p : List Int) : List Int × Bool := if file = 3 then (p ++ List.replicate (106 - p.length) 0, decide (p.length = 106)) else (slotI (p.take 105), decide (p.length ≤ 105))
/-- The slot of an extent, and whether it is right. -/
def readS (A : Dk) (f : ByteArray) (file : Nat) (gen i : Int) : List Int × Bool :=
  match A.cel f i with
  | none => (slotZ, false)
  | some c => match openI c.read f i with
    | none => (slotZ, false)
    | some x => if (x.2 : Int) ≠ gen then (slotZ, false) else readT file x.1
theorem readT_length (file : Nat) {p : List Int} (h : p.length ≤ 106) : (readT file p).1.length = 106 := by
  unfold readT
  split
  · simp only [List.length_append, List.length_replicate]; omega
  · exact slotI_length (by rw [List.length_take]; omega)
theorem readS_length (A : Dk) (f : ByteArray) (file : Nat) (gen i : Int) : (readS A f file gen i).1.length = 106 := by
  unfold readS
  split
  · rfl
  · split
    · rfl
    · rename_i x hx
      split
      · rfl
      · exact readT_length file (openI_gen (p := x.1) (g := x.2) hx).2
theorem run_store_slot {E : Env} {q : HP} {w : World} {g : Nat} {Z S : List Int} (hZ : Z.length = 106) (hS : S.length = 106) (h : Sat E w (HP.pt g (.cells (b8s Z).toArray 87) * q)) :
    ∃ w', (storeVar 87 ⟨g, 0, none⟩ (.agg (b8s S).toArray)).run Tryd.prog w = .ok () w' ∧ Sat E w' (HP.pt g (.cells (b8s S).toArray 87) * q) := by
  have r2 := run_storeAgg agSlot (g := g) (off := 0) (cs := b8s S) h.get (by rw [b8s_length]; exact hS) (by simp [b8s_length, hZ]) (b8s_one S)
  have h2 := h.splice (splice (b8s Z).toArray.toList 0 (b8s S))
  have e : splice (b8s Z).toArray.toList 0 (b8s S) = b8s S := by
    unfold splice
    rw [List.take_zero, List.nil_append, Nat.zero_add, List.drop_of_length_le (by simp [b8s_length, hS, hZ]), List.append_nil]
  rw [e] at h2 r2
  exact ⟨_, r2, h2⟩
theorem run_load_slot {E : Env} {q : HP} {w : World} {g : Nat} {S : List Int} (hS : S.length = 106) (h : Sat E w (HP.pt g (.cells (b8s S).toArray 87) * q)) : (loadVar 87 ⟨g, 0, none⟩).run Tryd.prog w = .ok (.agg (b8s S).toArray) w :=
  run_loadAgg agSlot (by rw [b8s_length]; exact hS) (Sat.ptCells (off := 0) (l := b8s S) h (by rw [List.drop_zero, List.take_length]))
theorem run_arraySlot (a : Option Addr) (n c : Nat) (h : 106 ≤ n) (w : World) : (Instr.arrayAt 87 (.slice a n c)).run Tryd.prog w = .ok (.pointer a) w := by
  have : ¬ n < 106 := by omega
  simp [Instr.arrayAt, run_underlying Tryd.underlying87, this]
set_option maxHeartbeats 4000000 in
set_option maxRecDepth 100000 in
theorem stripe_read (E : Env) (q : HP) (d : Nat) (A : Dk) (f : ByteArray) (file : Nat) (gen i : Int) (w : World) (hf : f.size ≤ maxLen) (hfl : file < 4) (hby : ∀ c, A.cel f i = some c → Bytes c.read)
    (hq : ∀ w, Sat E w q → Quarter w) (hw : Sat E w (HP.disk d A * q)) :
    Calls Tryd.prog 91 #[.pointer (some ⟨d, 0, none⟩), .string f, .int .i64 file, .int .i64 gen, .int .i64 i] w fun e w' => e = .returned (.tuple #[.agg (b8s (readS A f file gen i).1).toArray, .bool (readS A f file gen i).2]) ∧ Sat E w' (HP.disk d A * q) := by
  have h0 := hw.alloc (.cells Tryd.zeroCells87 87)
  rw [← zero_slot] at h0
  have H0 : Aside (Sat E (w.alloc (.cells Tryd.zeroCells87 87)) (HP.disk d A * (HP.pt w.heap.size (.cells (b8s slotZ).toArray 87) * q))) := ⟨by rw [← zero_slot]; exact h0.perm (by show HP.pt _ (.cells (b8s slotZ).toArray _) * (HP.disk d A * q) = _; ac_rfl)⟩
  have HQ := Aside.mk (And.intro hq hby)
  have HZL : Aside (slotZ.length = 106) := ⟨List.length_replicate ..⟩
  have hz2 : Tryd.zeroCells87 = (b8s slotZ).toArray := zero_slot.symm
  have HZ2 := Aside.mk hz2
  clear hz2 h0 hw hq hby
  go_enter Tryd.func91, Tryd.ntmps91
  go_wp2_with fail
  refine (disk_read_ok E _ d A f i _ hf H0.out).mono ?_
  intro e w3 h3
  generalize w.heap.size = r at *
  unfold readEnd at h3
  cases hc : A.cel f i with
  | none =>
    rw [hc] at h3
    obtain ⟨rfl, h3⟩ := h3
    have HR : Aside (readS A f file gen i = (slotZ, false)) := ⟨by unfold readS; rw [hc]⟩
    obtain ⟨w4, hr4, h4⟩ := run_store_slot HZL.out HZL.out (h3.perm (by ac_rfl : _ = HP.pt r (.cells (b8s slotZ).toArray 87) * (HP.disk d A * q)))
    have rl := run_load_slot HZL.out h4
    have H4 := Aside.mk h4.right
    rw [← HZ2.out] at hr4
    clear h3 h4 hc
    go_wp2_with (first | (refine wpList_store_run rfl rfl rfl rfl rfl hr4 ?_))
    refine bodyPost_ret (results_ct rfl rfl rl) rfl ?_
    rw [HR.out]
    exact ⟨rfl, H4.out⟩
  | some cl =>
    rw [hc] at h3
    obtain ⟨vr, rfl, h3⟩ := h3
    have hbr := HQ.out.2 cl hc
    obtain ⟨Ar, cr, rfl, hcr, -⟩ := h3.row_slice
    have hl128 : cl.read.length = 128 := by
      have := h3.row_cases.1
      rw [b8s_length] at this
      exact this
    have HR0 : Aside (readS A f file gen i = match openI cl.read f i with
      | none => (slotZ, false)
      | some x => if (x.2 : Int) ≠ gen then (slotZ, false) else readT file x.1) := ⟨by unfold readS; rw [hc]⟩
    have H3 := Aside.mk (And.intro h3 (And.intro hbr hl128))
    clear h3 hbr hl128 hc H0
    go_wp2_with fail
    refine (ext_open E _ f i Ar cl.read 128 cr _ hf H3.out.2.2 hcr H3.out.2.1 (fun w h => ⟨HQ.out.1 _ h.right.right.right, h.row_cells⟩) H3.out.1).mono ?_
    rintro e w4 (⟨ho, rfl, h4⟩ | ⟨p, G, vp, ho, rfl, h4⟩)
    · have HR : Aside (readS A f file gen i = (slotZ, false)) := ⟨by rw [HR0.out, ho]⟩
      obtain ⟨w5, hr5, h5⟩ := run_store_slot HZL.out HZL.out (h4.right.perm (by ac_rfl : _ = HP.pt r (.cells (b8s slotZ).toArray 87) * (HP.disk d A * q)))
      have rl := run_load_slot HZL.out h5
      have H5 := Aside.mk h5.right
      rw [← HZ2.out] at hr5
      clear h4 h5 ho HR0 H3
      go_wp2_with (first | (refine wpList_store_run rfl rfl rfl rfl rfl hr5 ?_))
      refine bodyPost_ret (results_ct rfl rfl rl) rfl ?_
      rw [HR.out]
      exact ⟨rfl, H5.out⟩
    · have hgp := openI_gen ho
      have HR1 : Aside (readS A f file gen i = if (G : Int) ≠ gen then (slotZ, false) else readT file p) := ⟨by rw [HR0.out, ho]⟩
      obtain ⟨Av, cv, rfl, hcv, hmv⟩ := h4.row_slice
      have h5 : Sat E w4 (HP.row 5 1 (.slice Av p.length cv) p.length (b8s p) * (HP.pt r (.cells (b8s slotZ).toArray 87) * (HP.disk d A * q))) := (h4.perm (by ac_rfl : _ = HP.row 5 1 (.slice Ar 128 cr) 128 (b8s cl.read) * (HP.row 5 1 (.slice Av p.length cv) p.length (b8s p) * (HP.pt r (.cells (b8s slotZ).toArray 87) * (HP.disk d A * q))))).right
      clear h4 ho HR0 H3 hcr
      by_cases hG : (G : Int) = gen
      · have HR2 : Aside (readS A f file gen i = readT file p) := ⟨by rw [HR1.out, if_neg (fun h => h hG)]⟩
        obtain ⟨n, hn⟩ : ∃ n, n = p.length := ⟨_, rfl⟩
        have hn6 : n ≤ 106 := by rw [hn]; exact hgp.2
        rw [← hn] at h5 hcv ⊢
        have HN := Aside.mk hn
        have hgg : ((G : Int) == gen) = true := by rw [hG]; exact beq_self_eq_true _
        subst hG
        clear hn hgp HR1
        by_cases h3f : file = 3
        · subst h3f
          have H5 := Aside.mk h5
          clear h5
          obtain ⟨S, hS⟩ : ∃ S, S = p ++ List.replicate (106 - n) 0 := ⟨_, rfl⟩
          have hSl : S.length = 106 := by rw [hS, List.length_append, List.length_replicate, ← HN.out]; omega
          have hcs : b8s p ++ List.replicate (106 - n) (.int .u8 0) = b8s S := by rw [hS]; unfold b8s; rw [List.map_append, List.map_replicate]
          have hn1 : n + (106 - n) = 106 := by omega
          obtain ⟨bb, hbb⟩ : ∃ bb, bb = decide (n = 106) := ⟨_, rfl⟩
          have hb1 : ((n : Int) == 106) = bb := by rw [hbb]; by_cases h : n = 106 <;> simp [h] <;> omega
          have HT : Aside (readT 3 p = (S, bb)) := ⟨by unfold readT; rw [if_pos rfl, hS, hbb, HN.out]⟩
          have HS := Aside.mk (And.intro hSl (And.intro hcs hn1))
          clear hSl hcs hn1 hS hbb
          go_wp2_with (first | (refine wpList_load_run rfl rfl rfl rl6 ?_) | (refine wpList_store_run rfl rfl rfl rfl rfl hr7 ?_) | (at_builtin; refine wpList_append_zeros_any slB8 Tryd.underlying3 (by rfl) (by rfl) rfl rfl (k := 106 - n) (by rfl) (by show Value.int .i64 (106 - (n : Int)) = _; congr 1; omega) H5.out (by unfold maxLen; omega) (by omega) (fun v6 w6 hw6 => ?_); rw [HS.out.2.2, HS.out.2.1] at hw6; obtain ⟨A6, c6, rfl, hc6, hm6⟩ := hw6.row_slice; obtain ⟨a6, rfl, -⟩ := hw6.row_cells.at_ 0 (by rw [b8s_length, HS.out.1]; decide); obtain ⟨g6, o6, rfl⟩ := slice_addr hw6.row_cells rfl (k := 0) (by rw [b8s_length, HS.out.1]; decide); have ar := run_arraySlot (some ⟨g6, o6, none⟩) 106 c6 (by omega) w6; have rl6 := run_loadAgg (P := Tryd.prog) agSlot (by rw [b8s_length]; exact HS.out.1) hw6.row_cells; obtain ⟨w7, hr7, h7⟩ := run_store_slot HZL.out HS.out.1 hw6.right; have rl7 := run_load_slot HS.out.1 h7; have H7 := Aside.mk h7.right; clear hw6 h7 H5))
          refine bodyPost_ret (results_ct rfl rfl rl7) rfl ?_
          rw [HR2.out, HT.out]
          exact ⟨rfl, H7.out⟩
        · have h3i : ((file : Int) == 3) = false := by rw [beq_eq_false_iff_ne]; omega
          have h3j : ¬ (file : Int) = 3 := by omega
          have H5 := Aside.mk h5
          clear h5
          obtain ⟨m, hm⟩ : ∃ m, m = min n 105 := ⟨_, rfl⟩
          have hm1 : (if 105 < (n : Int) then 105 else (n : Int)) = (m : Int) := by split <;> omega
          have hm2 : min (n : Int) 105 = (m : Int) := by omega
          have hmn : m ≤ n := by omega
          have hm5 : m ≤ 105 := by omega
          have hmc : m ≤ cv := by omega
          obtain ⟨bb, hbb⟩ : ∃ bb, bb = decide (n ≤ 105) := ⟨_, rfl⟩
          have hb1 : decide ((n : Int) ≤ 105) = bb := by rw [hbb]; by_cases h : n ≤ 105 <;> simp [h] <;> omega
          have HT : Aside (readT file p = (slotI (p.take m), bb)) := ⟨by
            unfold readT
            have e : p.take m = p.take 105 := by rw [hm, Nat.min_comm, ← List.take_take, List.take_of_length_le (show p.length ≤ n by rw [HN.out]; exact Nat.le_refl _)]
            rw [if_neg h3f, hbb, ← HN.out, e]⟩
          have HPL : Aside ((p.take m).length = m) := ⟨by rw [List.length_take, ← HN.out]; omega⟩
          have HC : Aside (∀ w', Sat E w' (HP.row 5 1 (.slice Av n cv) n (b8s p) * (HP.pt r (.cells (b8s slotZ).toArray 87) * (HP.disk d A * q))) → Cells w' Av (b8s (p.take m))) := ⟨fun w' h => by
            have := h.row_cells.take m
            unfold b8s at this ⊢
            rw [List.map_take]; exact this⟩
          clear hbb hm
          go_wp2_with fail
          refine (stripe_of E _ Av (p.take m) m cv _ HPL.out hm5 HC.out H5.out).mono ?_
          rintro e w6 ⟨rfl, h6⟩
          have hS := slotI_length (p := p.take m) (by rw [HPL.out]; exact hm5)
          obtain ⟨w7, hr7, h7⟩ := run_store_slot HZL.out hS h6.right
          have rl7 := run_load_slot hS h7
          have H7 := Aside.mk h7.right
          clear h6 h7 H5 hS hm1 hm2
          go_wp2_with (first | (refine wpList_store_run rfl rfl rfl rfl rfl hr7 ?_))
          refine bodyPost_ret (results_ct rfl rfl rl7) rfl ?_
          rw [HR2.out, HT.out]
          exact ⟨rfl, H7.out⟩
      · have HR : Aside (readS A f file gen i = (slotZ, false)) := ⟨by rw [HR1.out, if_pos hG]⟩
        have hgg : ((G : Int) == gen) = false := by rw [beq_eq_false_iff_ne]; exact hG
        obtain ⟨w6, hr6, h6⟩ := run_store_slot HZL.out HZL.out h5.right
        have rl := run_load_slot HZL.out h6
        have H6 := Aside.mk h6.right
        rw [← HZ2.out] at hr6
        clear h5 h6 HR1 hgp hcv hmv
        go_wp2_with (first | (refine wpList_store_run rfl rfl rfl rfl rfl hr6 ?_))
        refine bodyPost_ret (results_ct rfl rfl rl) rfl ?_
        rw [HR.out]
        exact ⟨rfl, H6.out⟩
end Go.Proofs.YtjekeggkckgjfaaDoor
/- stripe.look. -/
namespace Go.Proofs.YtjekeggkckgjfaaDoor
open Go.RowKit HP
set_option linter.unusedSimpArgs false
set_option linter.unusedVariables false

/-- A group's cells: its slots, which of them are right, how many are not. -/
def gCells (G : List Int) (R : List Bool) (n : Nat) : List Value := b8s G ++ (R.map Value.bool ++ [.int .i64 n])
theorem gCells_length {G : List Int} {R : List Bool} (n : Nat) (hG : G.length = 424) (hR : R.length = 4) : (gCells G R n).length = 429 := by
  unfold gCells
  rw [List.length_append, List.length_append, b8s_length, List.length_map, hG, hR]
  rfl
theorem gCells_one (G : List Int) (R : List Bool) (n : Nat) : (gCells G R n).all Value.oneCell' = true := by
  unfold gCells
  rw [List.all_append, b8s_one, Bool.true_and, List.all_append]
  simp [Value.oneCell']
theorem agGrp : AgTy Tryd.prog 100 429 := ⟨⟨_, Tryd.underlying100, rfl⟩, by kernel_rfl⟩
theorem zero_grp : (gCells (List.replicate 424 0) (List.replicate 4 false) 0).toArray = Tryd.zeroCells100 := by kernel_rfl
theorem gCells_right {G : List Int} {R : List Bool} {n k : Nat} {b : Bool} (hG : G.length = 424) (hR : R[k]? = some b) : (gCells G R n).toArray[424 + k]? = some (.bool b) := by
  rw [List.getElem?_toArray]
  unfold gCells
  have hk : k < R.length := (List.getElem?_eq_some_iff.1 hR).1
  rw [List.getElem?_append_right (by rw [b8s_length]; omega), b8s_length, hG, Nat.add_sub_cancel_left, List.getElem?_append_left (by rw [List.length_map]; exact hk), List.getElem?_map, hR]
  rfl
theorem gCells_bad {G : List Int} {R : List Bool} (n : Nat) (hG : G.length = 424) (hR : R.length = 4) : (gCells G R n).toArray[428]? = some (.int .i64 n) := by
  rw [List.getElem?_toArray]
  unfold gCells
  rw [List.getElem?_append_right (by rw [b8s_length]; omega), b8s_length, hG, List.getElem?_append_right (by rw [List.length_map]; omega), List.length_map, hR]
  rfl
theorem gCells_setR {G : List Int} {R : List Bool} {n k : Nat} (b : Bool) (hG : G.length = 424) (hk : k < R.length) : (gCells G R n).toArray.setIfInBounds (424 + k) (.bool b) = (gCells G (R.set k b) n).toArray := by
  rw [List.setIfInBounds_toArray]
  unfold gCells
  rw [List.set_append_right _ _ (by rw [b8s_length]; omega), b8s_length, hG, Nat.add_sub_cancel_left, List.set_append_left _ _ (by rw [List.length_map]; exact hk), List.map_set]
theorem gCells_setN {G : List Int} {R : List Bool} {n : Nat} (m : Nat) (hG : G.length = 424) (hR : R.length = 4) : (gCells G R n).toArray.setIfInBounds 428 (.int .i64 (m : Int)) = (gCells G R m).toArray := by
  rw [List.setIfInBounds_toArray]
  unfold gCells
  rw [List.set_append_right _ _ (by rw [b8s_length]; omega), b8s_length, hG, List.set_append_right _ _ (by rw [List.length_map]; omega), List.length_map, hR]
  rfl
theorem gCells_spl {G S : List Int} {R : List Bool} {n k : Nat} (hG : G.length = 424) (hk : k < 4) (hS : S.length = 106) : splice (gCells G R n) (106 * k) (b8s S) = gCells (spl G k S) R n := by
  unfold splice gCells spl
  rw [b8s_length, hS, List.take_append_of_le_length (by rw [b8s_length]; omega), List.drop_append_of_le_length (by rw [b8s_length]; omega), b8s_append, b8s_append]
  unfold b8s
  simp only [List.map_take, List.map_drop, List.append_assoc]
theorem gCells_sec {G : List Int} {R : List Bool} {n k : Nat} (hG : G.length = 424) (hk : k < 4) : ((gCells G R n).drop (106 * k)).take 106 = b8s (sec G k) := by
  unfold gCells sec
  rw [List.drop_append_of_le_length (by rw [b8s_length]; omega), List.take_append_of_le_length (by rw [List.length_drop, b8s_length]; omega)]
  unfold b8s
  rw [List.map_take, List.map_drop]
def slotOf (A : Dk) (x : ByteArray) (gen i : Int) (k : Nat) : List Int × Bool := readS A (stripeF x k) k gen i
def badN (A : Dk) (x : ByteArray) (gen i : Int) : Nat → Nat
  | 0 => 0
  | k + 1 => badN A x gen i k + (if (slotOf A x gen i k).2 = true then 0 else 1)
theorem badN_le (A : Dk) (x : ByteArray) (gen i : Int) : ∀ k, badN A x gen i k ≤ k
  | 0 => Nat.le_refl _
  | k + 1 => by
    have := badN_le A x gen i k
    rw [badN]
    split <;> omega
/-- What is left of a group, so far. -/
structure Looked (A : Dk) (x : ByteArray) (gen i : Int) (k : Nat) (G : List Int) (R : List Bool) (n : Nat) : Prop where
  len : G.length = 424
  rlen : R.length = 4
  slot : ∀ j, j < k → sec G j = (slotOf A x gen i j).1
  right : ∀ j, j < k → R[j]? = some (slotOf A x gen i j).2
  bad : n = badN A x gen i k
theorem looked_start (A : Dk) (x : ByteArray) (gen i : Int) : Looked A x gen i 0 (List.replicate 424 0) (List.replicate 4 false) 0 := ⟨List.length_replicate .., List.length_replicate .., fun j h => by omega, fun j h => by omega, rfl⟩
theorem looked_step {A : Dk} {x : ByteArray} {gen i : Int} {k : Nat} {G : List Int} {R : List Bool} {n : Nat} (h : Looked A x gen i k G R n) (hk : k < 4) : Looked A x gen i (k + 1) (spl G k (slotOf A x gen i k).1) (R.set k (slotOf A x gen i k).2) (n + (if (slotOf A x gen i k).2 = true then 0 else 1)) := by
  have hS : (slotOf A x gen i k).1.length = 106 := readS_length _ _ _ _ _
  have hl := h.len
  refine ⟨by rw [spl_length hS (by omega), hl], by rw [List.length_set, h.rlen], fun j hj => ?_, fun j hj => ?_, by rw [badN, h.bad]⟩
  · rw [sec_spl hS (by omega) (by omega)]
    split
    · rename_i e
      rw [e]
    · exact h.slot j (by omega)
  · rw [List.getElem?_set]
    by_cases e : k = j
    · subst e
      rw [if_pos rfl, if_pos (by rw [h.rlen]; exact hk)]
    · rw [if_neg e]
      exact h.right j (by omega)
theorem stripeF_0 (x : ByteArray) : stripeF x 0 = x ++ dot0 := rfl
theorem stripeF_1 (x : ByteArray) : stripeF x 1 = x ++ dot1 := rfl
theorem stripeF_2 (x : ByteArray) : stripeF x 2 = x ++ dot2 := rfl
theorem stripeF_3 (x : ByteArray) : stripeF x 3 = x ++ dotP := rfl
end Go.Proofs.YtjekeggkckgjfaaDoor
/- stripe.look: the walk. -/
namespace Go.Proofs.YtjekeggkckgjfaaDoor
open Go.RowKit HP
set_option linter.unusedSimpArgs false
set_option linter.unusedVariables false

def lookEnd (E : Env) (q : HP) (A : Dk) (x : ByteArray) (gen i : Int) (e : Ending) (w' : World) : Prop := ∃ G R n, e = .returned (.agg (gCells G R n).toArray) ∧ Looked A x gen i 4 G R n ∧ Sat E w' q
set_option maxHeartbeats 4000000 in
set_option maxRecDepth 100000 in
theorem stripe_look (E : Env) (q : HP) (d : Nat) (A : Dk) (name : ByteArray) (gen i : Int) (w : World) (hname : name.size + 2 ≤ maxLen) (hby : ∀ k, k < 4 → ∀ c, A.cel (stripeF name k) i = some c → Bytes c.read)
    (hq : ∀ w, Sat E w q → Quarter w) (hw : Sat E w (HP.disk d A * q)) :
    Calls Tryd.prog 54 #[.pointer (some ⟨d, 0, none⟩), .string name, .int .i64 gen, .int .i64 i] w (lookEnd E (HP.disk d A * q) A name gen i) := by
  have h0 := (hw.alloc (.cells Tryd.zeroCells100 100)).alloc (.cells Tryd.zeroCells100 100)
  rw [show (w.alloc (.cells Tryd.zeroCells100 100)).heap.size = w.heap.size + 1 by simp] at h0
  have HQ := Aside.mk (And.intro hq hby)
  obtain ⟨Z, hZ⟩ : ∃ Z, Z = Tryd.zeroCells100 := ⟨_, rfl⟩
  have HZ : Aside (Z = (gCells (List.replicate 424 0) (List.replicate 4 false) 0).toArray) := ⟨by rw [hZ]; exact zero_grp.symm⟩
  rw [← hZ] at h0
  have H0 := Aside.mk h0
  have hfa : (name ++ dot0).size ≤ maxLen := by rw [(dot_size name).1]; exact hname
  have hfb : (name ++ dot1).size ≤ maxLen := by rw [(dot_size name).2.1]; exact hname
  have hfc : (name ++ dot2).size ≤ maxLen := by rw [(dot_size name).2.2.1]; exact hname
  have hfd : (name ++ dotP).size ≤ maxLen := by rw [(dot_size name).2.2.2]; exact hname
  have HF : Aside (stripeF name 0 = name ++ dot0 ∧ stripeF name 1 = name ++ dot1 ∧ stripeF name 2 = name ++ dot2 ∧ stripeF name 3 = name ++ dotP) := ⟨rfl, rfl, rfl, rfl⟩
  have HZ9 := Aside.mk hZ
  clear h0 hw hq hby
  go_enter Tryd.func54, Tryd.ntmps54
  go_wp2_with fail
  rw [← HZ9.out]
  refine (stripe_names E _ name _ hname H0.out).mono ?_
  rintro e w1 ⟨rfl, h1⟩
  obtain ⟨fa, hfae⟩ : ∃ fa, fa = name ++ dot0 := ⟨_, rfl⟩
  obtain ⟨fb, hfbe⟩ : ∃ fb, fb = name ++ dot1 := ⟨_, rfl⟩
  obtain ⟨fc, hfce⟩ : ∃ fc, fc = name ++ dot2 := ⟨_, rfl⟩
  obtain ⟨fd, hfde⟩ : ∃ fd, fd = name ++ dotP := ⟨_, rfl⟩
  rw [← hfae] at hfa HF ⊢
  rw [← hfbe] at hfb HF ⊢
  rw [← hfce] at hfc HF ⊢
  rw [← hfde] at hfd HF ⊢
  have i0 : ∀ w, (Instr.index 91 (.agg #[.string fa, .string fb, .string fc, .string fd]) (.int .i64 0)).run Tryd.prog w = .ok (.string fa) w := fun w => by kernel_rfl
  have i1 : ∀ w, (Instr.index 91 (.agg #[.string fa, .string fb, .string fc, .string fd]) (.int .i64 1)).run Tryd.prog w = .ok (.string fb) w := fun w => by kernel_rfl
  have i2 : ∀ w, (Instr.index 91 (.agg #[.string fa, .string fb, .string fc, .string fd]) (.int .i64 2)).run Tryd.prog w = .ok (.string fc) w := fun w => by kernel_rfl
  have i3 : ∀ w, (Instr.index 91 (.agg #[.string fa, .string fb, .string fc, .string fd]) (.int .i64 3)).run Tryd.prog w = .ok (.string fd) w := fun w => by kernel_rfl
  have H1 : Aside (∃ G R n, Looked A name gen i 0 G R n ∧ Sat E w1 (HP.pt (w.heap.size + 1) (.cells (gCells G R n).toArray 100) * (HP.pt w.heap.size (.cells Z 100) * (HP.disk d A * q)))) := ⟨_, _, _, looked_start A name gen i, by rw [← HZ.out]; exact h1⟩
  clear h1 hfae hfbe hfce hfde H0 hZ
  generalize w.heap.size + 1 = b at *
  generalize w.heap.size = r at *
  go_wp2
  go_loopw [14] (fun v14 wr => ∃ k : Nat, k ≤ 4 ∧ v14 = .int .i64 k ∧ Aside (∃ G R n, Looked A name gen i k G R n ∧ Sat E wr (HP.pt b (.cells (gCells G R n).toArray 100) * (HP.pt r (.cells Z 100) * (HP.disk d A * q))))) (fun i _ => 4 - (intOf i).toNat)
  case atStart => exact ⟨0, by omega, rfl, H1⟩
  case round =>
    clear H1
    obtain ⟨k, hk, rfl, HK⟩ := hrel
    by_cases hlt : k < 4
    · obtain ⟨f, hf, hff, hix⟩ : ∃ f : ByteArray, f.size ≤ maxLen ∧ stripeF name k = f ∧ ∀ w, (Instr.index 91 (.agg #[.string fa, .string fb, .string fc, .string fd]) (.int .i64 (k : Int))).run Tryd.prog w = .ok (.string f) w := by
        have hc : k = 0 ∨ k = 1 ∨ k = 2 ∨ k = 3 := by omega
        rcases hc with h0 | h0 | h0 | h0 <;> subst h0
        · exact ⟨fa, hfa, HF.out.1, i0⟩
        · exact ⟨fb, hfb, HF.out.2.1, i1⟩
        · exact ⟨fc, hfc, HF.out.2.2.1, i2⟩
        · exact ⟨fd, hfd, HF.out.2.2.2, i3⟩
      obtain ⟨G, R, n, hG, hS⟩ := HK.out
      have hby := HQ.out.2 k hlt
      have HST := Aside.mk (looked_step hG hlt)
      have hSl : (slotOf A name gen i k).1.length = 106 := readS_length _ _ _ _ _
      have hso : readS A f k gen i = slotOf A name gen i k := by unfold slotOf; rw [hff]
      have hn4 : n ≤ 4 := by
        have := hG.bad
        have := badN_le A name gen i k
        omega
      rw [hff] at hby
      have HG := Aside.mk (And.intro hG.len (And.intro hG.rlen (And.intro hSl (And.intro hso hby))))
      have hS2 : Sat E wr (HP.disk d A * (HP.pt b (.cells (gCells G R n).toArray 100) * (HP.pt r (.cells Z 100) * q))) := hS.perm (by ac_rfl)
      have HS := Aside.mk hS2
      clear hG hS hS2 hby hSl hso hff HK i0 i1 i2 i3
      have hlt2 : (k : Int) < 4 := by omega
      go_wp2_with fail
      refine (stripe_read E _ d A f k gen i _ hf hlt HG.out.2.2.2.2 (fun w h => HQ.out.1 w h.right.right) HS.out).mono ?_
      rintro e w3 ⟨rfl, h3⟩
      rw [HG.out.2.2.2.1]
      have hSl := HG.out.2.2.1
      generalize slotOf A name gen i k = so at *
      obtain ⟨S, rt⟩ := so
      dsimp only at *
      have h4 : Sat E w3 (HP.pt b (.cells (gCells G R n).toArray 100) * (HP.pt r (.cells Z 100) * (HP.disk d A * q))) := h3.perm (by ac_rfl)
      have hr4 := run_storeAgg agSlot (g := b) (off := 106 * k) (cs := b8s S) h4.get (by rw [b8s_length]; exact hSl) (by rw [List.size_toArray, gCells_length n HG.out.1 HG.out.2.1]; omega) (b8s_one S)
      have h5 := h4.splice (splice (gCells G R n).toArray.toList (106 * k) (b8s S))
      have e5 : splice (gCells G R n).toArray.toList (106 * k) (b8s S) = gCells (spl G k S) R n := gCells_spl HG.out.1 hlt hSl
      rw [e5] at h5 hr4
      rw [Nat.mul_comm] at hr4
      generalize World.setRow w3 b (gCells (spl G k S) R n).toArray = w5 at *
      have hG5 : (spl G k S).length = 424 := by rw [spl_length hSl (by have := HG.out.1; omega), HG.out.1]
      have g5 : w5.cell? ⟨b, 424 + k, none⟩ = some (.bool (R[k]'(by rw [HG.out.2.1]; exact hlt))) := by rw [h5.cell (424 + k)]; exact gCells_right hG5 (List.getElem?_eq_getElem _)
      generalize (R[k]'(by rw [HG.out.2.1]; exact hlt)) = ob at g5
      have t5 : w5.frozen? ⟨b, 424 + k, none⟩ = false := h5.thaw (424 + k)
      have h6 := h5.set (i := 424 + k) (.bool rt)
      rw [gCells_setR rt hG5 (by rw [HG.out.2.1]; exact hlt)] at h6
      have hR6 : (R.set k rt)[k]? = some rt := by rw [List.getElem?_set_self (by rw [HG.out.2.1]; exact hlt)]
      have hRl : (R.set k rt).length = 4 := by rw [List.length_set]; exact HG.out.2.1
      have g6 : (w5.setCell ⟨b, 424 + k, none⟩ (.bool rt)).cell? ⟨b, 424 + k, none⟩ = some (.bool rt) := by rw [h6.cell (424 + k)]; exact gCells_right hG5 hR6
      have g7 : (w5.setCell ⟨b, 424 + k, none⟩ (.bool rt)).cell? ⟨b, 428, none⟩ = some (.int .i64 n) := by rw [h6.cell 428]; exact gCells_bad n hG5 hRl
      have t7 : (w5.setCell ⟨b, 424 + k, none⟩ (.bool rt)).frozen? ⟨b, 428, none⟩ = false := h6.thaw 428
      have H6 := Aside.mk (And.intro h6 (And.intro hG5 hRl))
      clear h3 h4 h5 h6 e5 hG5 hR6 hRl hSl HS
      cases rt with
      | true =>
        simp only [if_true] at HST
        have H8 : Aside (∃ G R n, Looked A name gen i (k + 1) G R n ∧ Sat E (w5.setCell ⟨b, 424 + k, none⟩ (.bool true)) (HP.pt b (.cells (gCells G R n).toArray 100) * (HP.pt r (.cells Z 100) * (HP.disk d A * q)))) := ⟨_, _, _, HST.out, H6.out.1⟩
        clear HST H6 t7 g7 HG
        go_wp2_with (first | (refine wpList_store_run rfl rfl rfl rfl rfl hr4 ?_))
        go_roundw
        case rel => exact ⟨k + 1, by omega, by push_cast; rfl, H8⟩
        case measure => simp [intOf]; omega
      | false =>
        have H8 : Aside (∃ G' R' n', Looked A name gen i (k + 1) G' R' n' ∧ Sat E ((w5.setCell ⟨b, 424 + k, none⟩ (.bool false)).setCell ⟨b, 428, none⟩ (.int .i64 ((n + 1 : Nat) : Int))) (HP.pt b (.cells (gCells G' R' n').toArray 100) * (HP.pt r (.cells Z 100) * (HP.disk d A * q)))) := ⟨_, _, n + 1, HST.out, by
          have h := H6.out.1.set (i := 428) (.int .i64 ((n + 1 : Nat) : Int))
          rw [gCells_setN (n + 1) H6.out.2.1 H6.out.2.2] at h
          exact h⟩
        push_cast at H8
        clear HST H6 HG
        go_wp2_with (first | (refine wpList_store_run rfl rfl rfl rfl rfl hr4 ?_))
        go_roundw
        case rel => exact ⟨k + 1, by omega, by push_cast; rfl, H8⟩
        case measure => simp [intOf]; omega
    · obtain rfl : k = 4 := by omega
      obtain ⟨G, R, n, hG, hS⟩ := HK.out
      have rl := run_loadAgg (P := Tryd.prog) agGrp (gCells_length n hG.len hG.rlen) (Sat.ptCells (off := 0) (l := gCells G R n) hS (by rw [List.drop_zero, List.take_length]))
      have h2 := hS.s2
      rw [HZ.out] at h2
      have hr2 := run_storeAgg agGrp (g := r) (off := 0) (cs := gCells G R n) h2.get (gCells_length n hG.len hG.rlen) (by rw [List.size_toArray, gCells_length 0 (List.length_replicate ..) (List.length_replicate ..)]; exact Nat.le_refl _) (gCells_one G R n)
      have h3 := h2.splice (splice (gCells (List.replicate 424 0) (List.replicate 4 false) 0).toArray.toList 0 (gCells G R n))
      have e3 : splice (gCells (List.replicate 424 0) (List.replicate 4 false) 0).toArray.toList 0 (gCells G R n) = gCells G R n := by
        unfold splice
        rw [List.take_zero, List.nil_append, Nat.zero_add, List.drop_of_length_le (by rw [show (gCells (List.replicate 424 0) (List.replicate 4 false) 0).toArray.toList.length = 429 from gCells_length 0 (List.length_replicate ..) (List.length_replicate ..), gCells_length n hG.len hG.rlen]; exact Nat.le_refl _), List.append_nil]
      rw [e3] at h3 hr2
      generalize World.setRow wr r (gCells G R n).toArray = w4 at *
      have rl4 := run_loadAgg (P := Tryd.prog) agGrp (gCells_length n hG.len hG.rlen) (Sat.ptCells (off := 0) (l := gCells G R n) h3 (by rw [List.drop_zero, List.take_length]))
      have H3 := Aside.mk (And.intro h3 hG)
      clear hG hS h2 h3 e3 HK i0 i1 i2 i3
      obtain ⟨C, hC⟩ : ∃ C, C = (gCells G R n).toArray := ⟨_, rfl⟩
      rw [← hC] at rl hr2 rl4
      have HC := Aside.mk hC
      clear hC
      go_wp2_with (first | (refine wpList_load_run rfl rfl rfl rl ?_) | (refine wpList_store_run rfl rfl rfl rfl rfl hr2 ?_))
      refine bodyPost_ret (results_cell (t := 8) rfl rfl rl4) rfl ?_
      exact ⟨G, R, n, by rw [HC.out], H3.out.2, H3.out.1.right.right⟩
end Go.Proofs.YtjekeggkckgjfaaDoor
/- stripe.group.at, where nothing is to be mended. -/
namespace Go.Proofs.YtjekeggkckgjfaaDoor
open Go.RowKit HP
set_option linter.unusedSimpArgs false
set_option linter.unusedVariables false

def atP (A : Dk) (x : ByteArray) (gen i : Int) (k : Nat) : List Int × Bool := if (slotOf A x gen i k).2 = true then ((slotOf A x gen i k).1, true) else (slotZ, false)
set_option maxHeartbeats 4000000 in
set_option maxRecDepth 100000 in
theorem stripe_at_plain (E : Env) (q : HP) (b : Nat) (A : Dk) (x : ByteArray) (gen i : Int) (G : List Int) (R : List Bool) (n k : Nat) (w : World) (hk : k < 4) (hG : Looked A x gen i 4 G R n) (hp : (slotOf A x gen i k).2 = true ∨ 1 < n) (hw : Sat E w (HP.pt b (.cells (gCells G R n).toArray 100) * q)) :
    Calls Tryd.prog 55 #[.pointer (some ⟨b, 0, none⟩), .int .i64 k] w fun e w' => e = .returned (.tuple #[.agg (b8s (atP A x gen i k).1).toArray, .bool (atP A x gen i k).2]) ∧ Sat E w' (HP.pt b (.cells (gCells G R n).toArray 100) * q) := by
  have h0 := hw.alloc (.cells Tryd.zeroCells87 87)
  have g1 : (w.alloc (.cells Tryd.zeroCells87 87)).cell? ⟨b, 424 + k, none⟩ = some (.bool (slotOf A x gen i k).2) := by
    rw [h0.s2.cell (424 + k)]
    exact gCells_right hG.len (hG.right k hk)
  have g2 : (w.alloc (.cells Tryd.zeroCells87 87)).cell? ⟨b, 428, none⟩ = some (.int .i64 n) := by
    rw [h0.s2.cell 428]
    exact gCells_bad n hG.len hG.rlen
  have hk2 : (k : Int) < 4 := by omega
  obtain ⟨Z, hZ⟩ : ∃ Z, Z = Tryd.zeroCells87 := ⟨_, rfl⟩
  have HZ : Aside (Z = (b8s slotZ).toArray) := ⟨by rw [hZ]; exact zero_slot.symm⟩
  have HZ9 := Aside.mk hZ
  rw [← hZ] at h0 g1 g2
  have h1 := h0
  rw [HZ.out] at h1
  have hSl : (slotOf A x gen i k).1.length = 106 := readS_length _ _ _ _ _
  by_cases hr : (slotOf A x gen i k).2 = true
  · have HT : Aside (atP A x gen i k = ((slotOf A x gen i k).1, true)) := ⟨by unfold atP; rw [if_pos hr]⟩
    rw [hr] at g1
    obtain ⟨w4, hr4, h4⟩ := run_store_slot (Z := slotZ) (S := (slotOf A x gen i k).1) (List.length_replicate ..) hSl h1
    have rl4 := run_load_slot hSl h4
    have rl : (loadVar 87 ⟨b, k * 106, none⟩).run Tryd.prog (w.alloc (.cells Z 87)) = .ok (.agg (b8s (slotOf A x gen i k).1).toArray) (w.alloc (.cells Z 87)) := run_loadAgg (P := Tryd.prog) agSlot (by rw [b8s_length]; exact hSl) (Sat.ptCells (off := k * 106) (l := b8s (slotOf A x gen i k).1) h0.s2 (by rw [b8s_length, hSl, Nat.mul_comm k 106, ← hG.slot k hk]; exact gCells_sec hG.len hk))
    rw [← HZ.out, HZ9.out] at hr4
    rw [HZ9.out] at g1 rl
    have H4 := Aside.mk h4.right
    clear h0 h1 h4 hG hp hw hr hSl g2
    generalize (slotOf A x gen i k).1 = S at *
    go_enter Tryd.func55, Tryd.ntmps55
    go_wp2_with (first | (refine wpList_load_run rfl rfl rfl rl ?_) | (refine wpList_store_run rfl rfl rfl rfl rfl hr4 ?_))
    refine bodyPost_ret (results_ct rfl rfl rl4) rfl ?_
    rw [HT.out]
    exact ⟨rfl, H4.out⟩
  · have HT : Aside (atP A x gen i k = (slotZ, false)) := ⟨by unfold atP; rw [if_neg hr]⟩
    have hn : 1 < n := by
      rcases hp with hp | hp
      · exact absurd hp hr
      · exact hp
    rw [Bool.not_eq_true] at hr
    rw [hr] at g1
    have hn2 : (1 : Int) < (n : Int) := by omega
    obtain ⟨w4, hr4, h4⟩ := run_store_slot (Z := slotZ) (S := slotZ) (List.length_replicate ..) (List.length_replicate ..) h1
    have rl4 := run_load_slot (S := slotZ) (List.length_replicate ..) h4
    rw [← HZ.out, HZ9.out] at hr4
    have H4 := Aside.mk h4.right
    clear h0 h1 h4 hG hp hw hr hSl
    rw [HZ9.out] at g1 g2
    go_enter Tryd.func55, Tryd.ntmps55
    go_wp2_with (first | (refine wpList_store_run rfl rfl rfl rfl rfl hr4 ?_))
    refine bodyPost_ret (results_ct rfl rfl rl4) rfl ?_
    rw [HT.out]
    exact ⟨rfl, H4.out⟩
end Go.Proofs.YtjekeggkckgjfaaDoor
/- stripe.Part, the plain part: what is read of slots that a text was stored in. -/
namespace Go.Proofs.YtjekeggkckgjfaaDoor
open Go.RowKit HP
set_option linter.unusedSimpArgs false
set_option linter.unusedVariables false

/-- A part of a text, slot by slot. -/
def partM (at_ : Nat → Nat → List Int × Bool) : Nat → Nat → Nat → List Int → Option (List Int)
  | 0, _, _, out => some out
  | c + 1, fr, en, out =>
    if fr < en then
      if (at_ (fr / 105 / 3) (fr / 105 % 3)).2 = true ∧ ((fr % 105 + min (105 - fr % 105) (en - fr) : Nat) : Int) ≤ (at_ (fr / 105 / 3) (fr / 105 % 3)).1.headD 0 then
        partM at_ c (fr + min (105 - fr % 105) (en - fr)) en (out ++ ((at_ (fr / 105 / 3) (fr / 105 % 3)).1.drop (1 + fr % 105)).take (min (105 - fr % 105) (en - fr)))
      else none
    else some out
theorem part_slot {l : List Int} {e sk nn : Nat} (h : ((sk + nn : Nat) : Int) ≤ (slotI (partI l e)).headD 0) : ((slotI (partI l e)).drop (1 + sk)).take nn = (l.drop (105 * e + sk)).take nn ∧ (0 < nn → 105 * e + sk + nn ≤ l.length) := by
  rw [slotI_head, partI_length] at h
  have hl := partI_length l e
  refine ⟨?_, fun h0 => by omega⟩
  unfold slotI
  rw [Nat.add_comm 1 sk, List.drop_succ_cons, List.drop_append_of_le_length (by omega), List.take_append_of_le_length (by rw [List.length_drop]; omega)]
  unfold partI
  rw [List.drop_take, List.take_take, List.drop_drop, Nat.min_eq_left (by omega)]
/-- What the slots of a text are told as, if they are. -/
structure AtText (l : List Int) (at_ : Nat → Nat → List Int × Bool) : Prop where
  right : ∀ i k, k < 3 → (at_ i k).2 = true → (at_ i k).1 = slotI (partI l (3 * i + k))
theorem partM_sound {l : List Int} {at_ : Nat → Nat → List Int × Bool} (hA : AtText l at_) : ∀ (c fr en : Nat) (out r : List Int), fr ≤ en → en ≤ fr + c → partM at_ c fr en out = some r → r = out ++ (l.drop fr).take (en - fr) ∧ (fr < en → en ≤ l.length)
  | 0, fr, en, out, r, h1, h2, h => by
    obtain rfl : fr = en := by omega
    simp only [partM, Option.some.injEq] at h
    refine ⟨by rw [← h, Nat.sub_self, List.take_zero, List.append_nil], fun h => by omega⟩
  | c + 1, fr, en, out, r, h1, h2, h => by
    unfold partM at h
    split at h
    · rename_i hlt
      split at h
      · rename_i hok
        have hs := hA.right (fr / 105 / 3) (fr / 105 % 3) (Nat.mod_lt _ (by decide)) hok.1
        have he : 3 * (fr / 105 / 3) + fr / 105 % 3 = fr / 105 := by omega
        rw [he] at hs
        rw [hs] at h hok
        obtain ⟨hp, hb⟩ := part_slot hok.2
        have hfr : 105 * (fr / 105) + fr % 105 = fr := by omega
        rw [hfr] at hp hb
        rw [hp] at h
        obtain ⟨nn, hnn⟩ : ∃ nn, nn = min (105 - fr % 105) (en - fr) := ⟨_, rfl⟩
        rw [← hnn] at h hb
        have hn0 : 0 < nn := by omega
        obtain ⟨hr, hl⟩ := partM_sound hA c (fr + nn) en _ r (by omega) (by omega) h
        refine ⟨?_, fun _ => ?_⟩
        · rw [hr, List.append_assoc]
          congr 1
          rw [← List.drop_drop, show en - (fr + nn) = en - fr - nn by omega, show en - fr = nn + (en - fr - nn) by omega, List.take_add]
          rw [show nn + (en - fr - nn) - nn = en - fr - nn by omega]
        · have := hb hn0
          by_cases h3 : fr + nn < en
          · exact hl h3
          · omega
      · cases h
    · rename_i hlt
      obtain rfl : fr = en := by omega
      simp only [Option.some.injEq] at h
      refine ⟨by rw [← h, Nat.sub_self, List.take_zero, List.append_nil], fun h => by omega⟩
theorem partM_whole {l : List Int} {at_ : Nat → Nat → List Int × Bool} (hA : AtText l at_) (hr : ∀ i k, k < 3 → i < groupsN l.length → (at_ i k).2 = true) : ∀ (c fr en : Nat) (out : List Int), fr ≤ en → en ≤ l.length → ∃ r, partM at_ c fr en out = some r
  | 0, fr, en, out, h1, h2 => ⟨_, rfl⟩
  | c + 1, fr, en, out, h1, h2 => by
    have hg := groupsN_bounds l.length
    unfold partM
    split
    · rename_i hlt
      have hk : fr / 105 % 3 < 3 := Nat.mod_lt _ (by decide)
      have hi : fr / 105 / 3 < groupsN l.length := by omega
      have hok := hr (fr / 105 / 3) (fr / 105 % 3) hk hi
      have hs := hA.right _ _ hk hok
      have he : 3 * (fr / 105 / 3) + fr / 105 % 3 = fr / 105 := by omega
      rw [he] at hs
      have hc : ((fr % 105 + min (105 - fr % 105) (en - fr) : Nat) : Int) ≤ (at_ (fr / 105 / 3) (fr / 105 % 3)).1.headD 0 := by
        rw [hs, slotI_head, partI_length]
        omega
      rw [if_pos ⟨hok, hc⟩]
      exact partM_whole hA hr c _ en _ (by omega) h2
    · exact ⟨_, rfl⟩
/-- What is read of a text that is whole. -/
theorem partM_read {l : List Int} {at_ : Nat → Nat → List Int × Bool} (hA : AtText l at_) (hr : ∀ i k, k < 3 → i < groupsN l.length → (at_ i k).2 = true) {fr en : Nat} (h1 : fr ≤ en) (h2 : en ≤ l.length) : partM at_ en fr en [] = some ((l.drop fr).take (en - fr)) := by
  obtain ⟨r, h⟩ := partM_whole hA hr en fr en [] h1 h2
  rw [h, (partM_sound hA en fr en [] r h1 (by omega) h).1, List.nil_append]
theorem partM_beyond {l : List Int} {at_ : Nat → Nat → List Int × Bool} (hA : AtText l at_) {fr en : Nat} (h1 : fr < en) (h2 : l.length < en) : partM at_ en fr en [] = none := by
  cases h : partM at_ en fr en [] with
  | none => rfl
  | some r =>
    have := (partM_sound hA en fr en [] r (by omega) (by omega) h).2 h1
    omega
/-- The slots of a text that stands on a disk. -/
theorem paysS_get (l : List Int) (n k : Nat) {i : Nat} (h : i < n) : (paysS l n k)[i]? = some (payS l i k) := by
  unfold paysS
  rw [List.getElem?_map, List.getElem?_range h]
  rfl
def slotT (l : List Int) (i k : Nat) : List Int := if k = 3 then parI l i 3 else slotI (partI l (3 * i + k))
theorem readT_pay (l : List Int) (i k : Nat) : readT k (payS l i k) = (slotT l i k, true) := by
  unfold readT payS slotT
  by_cases h : k = 3
  · rw [if_pos h, if_pos h, if_pos h, parI_length]
    simp
  · have := partI_le l (3 * i + k)
    rw [if_neg h, if_neg h, if_neg h, List.take_of_length_le this]
    simp [this]
theorem readS_held {B : Dk} {f : ByteArray} {gen i k n : Nat} {l : List Int} (hg : gen ≤ 4611686018427387904) (hn : n ≤ 2147483647) (h : B.at f = (newCels f gen 0 (paysS l n k)).map Cel.syncd) (hi : i < n) : readS B f k gen i = (slotT l i k, true) := by
  unfold readS
  rw [held_cel h (paysS_get l n k hi)]
  dsimp only [stl]
  rw [openI_extI (by omega) hg (payS_length l i k)]
  dsimp only
  rw [if_neg (by simp), readT_pay]
theorem readS_none {B : Dk} {f : ByteArray} {gen i k n : Nat} {l : List Int} (h : B.at f = (newCels f gen 0 (paysS l n k)).map Cel.syncd) (hi : n ≤ i) : readS B f k gen i = (slotZ, false) := by
  have : B.cel f i = none := by
    unfold Dk.cel
    rw [if_pos (by omega), Int.toNat_natCast, h, List.getElem?_eq_none (by rw [List.length_map, newCels_length, paysS_length]; exact hi)]
  unfold readS
  rw [this]
structure StRead (B : Dk) (x : ByteArray) (gen : Nat) (l : List Int) : Prop where
  right : ∀ i k, k < 4 → i < groupsN l.length → slotOf B x gen i k = (slotT l i k, true)
  none : ∀ i k, k < 4 → groupsN l.length ≤ i → slotOf B x gen i k = (slotZ, false)
  bytes : ∀ k, k < 4 → ∀ (i : Int) c, B.cel (stripeF x k) i = some c → Bytes c.read
theorem stRead_of {room : Int} {B : Dk} {x : ByteArray} {gen : Nat} {l : List Int} (h : StHas room x gen l B) (hg : gen ≤ 4611686018427387904) (hn : groupsN l.length ≤ 2147483647) (hb : Bytes l) : StRead B x gen l := by
  refine ⟨fun i k hk hi => readS_held hg hn (h.held k hk) hi, fun i k hk hi => readS_none (h.held k hk) hi, fun k hk i c hc => ?_⟩
  have hc2 := hc
  unfold Dk.cel at hc
  split at hc
  · rename_i h0
    rw [h.held k hk] at hc
    have hlt : i.toNat < groupsN l.length := by
      refine Nat.lt_of_not_le fun hn => ?_
      rw [List.getElem?_eq_none (by rw [List.length_map, newCels_length, paysS_length]; omega)] at hc
      cases hc
    have := held_cel (k := i.toNat) (h.held k hk) (paysS_get l _ k hlt)
    rw [show ((i.toNat : Nat) : Int) = i by omega, hc2] at this
    cases this
    exact extI_bytes (payS_length l _ k) (payS_bytes hb _ k)
  · cases hc
theorem badN_all {A : Dk} {x : ByteArray} {gen i : Int} : ∀ k, (∀ j, j < k → (slotOf A x gen i j).2 = false) → badN A x gen i k = k
  | 0, _ => rfl
  | k + 1, h => by
    rw [badN, badN_all k (fun j hj => h j (by omega)), h k (by omega)]
    simp
end Go.Proofs.YtjekeggkckgjfaaDoor
/- stripe.Part. -/
namespace Go.Proofs.YtjekeggkckgjfaaDoor
open Go.RowKit HP
set_option linter.unusedSimpArgs false
set_option linter.unusedVariables false

def partEnd (E : Env) (q : HP) (r : Option (List Int)) (e : Ending) (w' : World) : Prop :=
  match r with
  | none => e = .returned (.tuple #[.slice none 0 0, .int .i64 50]) ∧ Sat E w' q
  | some l => ∃ v, e = .returned (.tuple #[v, .int .i64 0]) ∧ Sat E w' (HP.row 5 1 v l.length (b8s l) * q)
/-- What the slots of a stripe are told as. -/
structure AtOk (E : Env) (A : Dk) (x : ByteArray) (gen : Int) (at_ : Nat → Nat → List Int × Bool) : Prop where
  call : ∀ (q' : HP) (b : Nat) (G : List Int) (R : List Bool) (n i k : Nat) (w : World), k < 3 → Looked A x gen (i : Int) 4 G R n → Sat E w (HP.pt b (.cells (gCells G R n).toArray 100) * q') →
    Calls Tryd.prog 55 #[.pointer (some ⟨b, 0, none⟩), .int .i64 k] w fun e w' => e = .returned (.tuple #[.agg (b8s (at_ i k).1).toArray, .bool (at_ i k).2]) ∧ Sat E w' (HP.pt b (.cells (gCells G R n).toArray 100) * q')
  len : ∀ i k, (at_ i k).1.length = 106
  bytes : ∀ i k, k < 3 → Bytes (at_ i k).1
theorem run_store_grp {E : Env} {q : HP} {w : World} {g : Nat} {G : List Int} {R : List Bool} {n : Nat} (hG : G.length = 424) (hR : R.length = 4) (h : Sat E w (HP.pt g (.cells Tryd.zeroCells100 100) * q)) :
    ∃ w', (storeVar 100 ⟨g, 0, none⟩ (.agg (gCells G R n).toArray)).run Tryd.prog w = .ok () w' ∧ Sat E w' (HP.pt g (.cells (gCells G R n).toArray 100) * q) := by
  rw [← zero_grp] at h
  have hr2 := run_storeAgg agGrp (g := g) (off := 0) (cs := gCells G R n) h.get (gCells_length n hG hR) (by rw [List.size_toArray, gCells_length 0 (List.length_replicate ..) (List.length_replicate ..)]; exact Nat.le_refl _) (gCells_one G R n)
  have h3 := h.splice (splice (gCells (List.replicate 424 0) (List.replicate 4 false) 0).toArray.toList 0 (gCells G R n))
  have e3 : splice (gCells (List.replicate 424 0) (List.replicate 4 false) 0).toArray.toList 0 (gCells G R n) = gCells G R n := by
    unfold splice
    rw [List.take_zero, List.nil_append, Nat.zero_add, List.drop_of_length_le (by rw [show (gCells (List.replicate 424 0) (List.replicate 4 false) 0).toArray.toList.length = 429 from gCells_length 0 (List.length_replicate ..) (List.length_replicate ..), gCells_length n hG hR]; exact Nat.le_refl _), List.append_nil]
  rw [e3] at h3 hr2
  exact ⟨_, hr2, h3⟩
theorem run_store_zero {E : Env} {q : HP} {w : World} {g : Nat} {S : List Int} (hS : S.length = 106) (h : Sat E w (HP.pt g (.cells Tryd.zeroCells87 87) * q)) :
    ∃ w', (storeVar 87 ⟨g, 0, none⟩ (.agg (b8s S).toArray)).run Tryd.prog w = .ok () w' ∧ Sat E w' (HP.pt g (.cells (b8s S).toArray 87) * q) := by
  rw [← zero_slot] at h
  exact run_store_slot (List.length_replicate ..) hS h
set_option maxHeartbeats 4000000 in
set_option maxRecDepth 100000 in
theorem stripe_part (E : Env) (q : HP) (d : Nat) (A : Dk) (name : ByteArray) (gen : Int) (fr0 size : Nat) (at_ : Nat → Nat → List Int × Bool) (w : World) (hname : name.size + 2 ≤ maxLen) (hf0 : fr0 ≤ 2147483647) (hsz : size ≤ 2147483647) (hby : ∀ k, k < 4 → ∀ (i : Int) c, A.cel (stripeF name k) i = some c → Bytes c.read)
    (hat : AtOk E A name gen at_) (hq : ∀ w, Sat E w q → Quarter w) (hw : Sat E w (HP.disk d A * q)) :
    Calls Tryd.prog 19 #[.pointer (some ⟨d, 0, none⟩), .string name, .int .i64 gen, .int .i64 fr0, .int .i64 size] w (partEnd E (HP.disk d A * q) (partM at_ (fr0 + size) fr0 (fr0 + size) [])) := by
  have HQ := Aside.mk (And.intro hq (And.intro hby (And.intro hat hw)))
  obtain ⟨en, hen⟩ : ∃ en, en = fr0 + size := ⟨_, rfl⟩
  have hsum : (fr0 : Int) + (size : Int) = (en : Int) := by omega
  have hen2 : en ≤ 4294967294 := by omega
  have hfe : fr0 ≤ en := by omega
  rw [← hen]
  clear hq hby hat hw hen
  go_enter Tryd.func19, Tryd.ntmps19
  go_wp2_with fail
  refine (stripe_none E q d A _ HQ.out.2.2.2).mono ?_
  rintro e w1 ⟨rfl, h1⟩
  have H1 := Aside.mk (h1.row_nil 5 1 none)
  clear h1
  go_wp2
  go_loopw [3, 12] (fun v3 v12 wr => ∃ (fr c : Nat) (out : List Int), v3 = .int .i64 fr ∧ fr ≤ en ∧ en ≤ fr + c ∧ out.length ≤ fr ∧ Aside (partM at_ c fr en out = partM at_ en fr0 en []) ∧ Aside (Sat E wr (HP.row 5 1 v12 out.length (b8s out) * (HP.disk d A * q)))) (fun i _ _ => en - (intOf i).toNat)
  case atStart => exact ⟨fr0, en, [], rfl, hfe, by omega, by simp, ⟨rfl⟩, H1⟩
  case round =>
    clear H1
    obtain ⟨fr, c, out, rfl, hfr, hc, hol, HM, HS⟩ := hrel
    by_cases hlt : fr < en
    · have hlt2 : (fr : Int) < (en : Int) := by omega
      obtain ⟨c, rfl⟩ : ∃ c2, c = c2 + 1 := ⟨c - 1, by omega⟩
      obtain ⟨e0, he0⟩ : ∃ e0, e0 = fr / 105 := ⟨_, rfl⟩
      obtain ⟨sk, hsk⟩ : ∃ sk, sk = fr % 105 := ⟨_, rfl⟩
      obtain ⟨gi, hgi⟩ : ∃ gi, gi = e0 / 3 := ⟨_, rfl⟩
      obtain ⟨kk, hkk⟩ : ∃ kk, kk = e0 % 3 := ⟨_, rfl⟩
      obtain ⟨nn, hnn⟩ : ∃ nn, nn = min (105 - sk) (en - fr) := ⟨_, rfl⟩
      have x1 : (fr : Int).tdiv 105 = (e0 : Int) := by rw [Int.tdiv_eq_ediv_of_nonneg (by omega)]; omega
      have x2 : (fr : Int).tmod 105 = (sk : Int) := by rw [Int.tmod_eq_emod_of_nonneg (by omega)]; omega
      have x3 : (e0 : Int).tdiv 3 = (gi : Int) := by rw [Int.tdiv_eq_ediv_of_nonneg (by omega)]; omega
      have x4 : (e0 : Int).tmod 3 = (kk : Int) := by rw [Int.tmod_eq_emod_of_nonneg (by omega)]; omega
      have y1 : (if (en : Int) - (fr : Int) < 105 - (sk : Int) then (en : Int) - (fr : Int) else 105 - (sk : Int)) = (nn : Int) := by split <;> omega
      have hk3 : kk < 3 := by omega
      have hsk5 : sk < 105 := by omega
      have hnn5 : sk + nn ≤ 105 := by omega
      have hnn0 : 0 < nn := by omega
      have hnne : fr + nn ≤ en := by omega
      have he00 : (e0 : Int) ≤ 4294967294 := by omega
      have hgi0 : (gi : Int) ≤ 4294967294 := by omega
      have HP1 : Aside (partM at_ (c + 1) fr en out = if (at_ gi kk).2 = true ∧ ((sk + nn : Nat) : Int) ≤ (at_ gi kk).1.headD 0 then partM at_ c (fr + nn) en (out ++ ((at_ gi kk).1.drop (1 + sk)).take nn) else none) := ⟨by
        conv => lhs; unfold partM
        rw [if_pos hlt, hnn, hkk, hgi, hsk, he0]⟩
      rw [HM.out] at HP1
      obtain ⟨AV, cV, rfl, hcV, hmV⟩ := HS.out.row_slice
      obtain ⟨no, hno⟩ : ∃ no, no = out.length := ⟨_, rfl⟩
      rw [← hno] at HS hol hcV ⊢
      have HNO := Aside.mk hno
      have hnom : (no : Int) ≤ 4294967294 := by omega
      clear HM he0 hsk hgi hkk hnn hno
      go_wp2_with fail
      refine (stripe_look E (HP.row 5 1 (.slice AV no cV) no (b8s out) * q) d A name gen gi _ hname (fun k hk c => HQ.out.2.1 k hk _ c) (fun w h => HQ.out.1 w h.right) HS.out.s2).mono ?_
      intro e w3 h3
      obtain ⟨G, R, n, rfl, hG, h3⟩ := h3
      have h4 := h3.alloc (.cells Tryd.zeroCells100 100)
      obtain ⟨w5, hr5, h5⟩ := run_store_grp (n := n) hG.len hG.rlen h4
      have HC := Aside.mk (HQ.out.2.2.1.call _ _ _ _ _ _ _ w5 hk3 hG h5)
      obtain ⟨C, hC⟩ : ∃ C, C = (gCells G R n).toArray := ⟨_, rfl⟩
      rw [← hC] at hr5 HC ⊢
      clear h3 h4 h5 hG hC HS x1 x2
      go_wp2_with (first | (refine wpList_store_run rfl rfl rfl rfl rfl hr5 ?_))
      refine HC.out.mono ?_
      rintro e w6 ⟨rfl, h6⟩
      have hSl := HQ.out.2.2.1.len gi kk
      have hSb := HQ.out.2.2.1.bytes gi kk hk3
      generalize at_ gi kk = so at *
      obtain ⟨S, ok⟩ := so
      dsimp only at *
      obtain ⟨w8, hr8, h8⟩ := run_store_zero hSl (h6.right.alloc (.cells Tryd.zeroCells87 87))
      have hx0 := getD_byte hSb 0
      have g8 : w8.cell? ⟨w6.heap.size, 0, none⟩ = some (.int .u8 (S.getD 0 0)) := by rw [h8.cell 0]; exact b8s_getD (by omega)
      have hhd : S.headD 0 = S.getD 0 0 := by cases S <;> rfl
      rw [hhd] at HP1
      have H8 := Aside.mk (And.intro h8 hSl)
      obtain ⟨x0, hx0e⟩ : ∃ x0, x0 = S.getD 0 0 := ⟨_, rfl⟩
      rw [← hx0e] at hx0 g8 HP1
      obtain ⟨C8, hC8⟩ : ∃ C8, C8 = (b8s S).toArray := ⟨_, rfl⟩
      rw [← hC8] at hr8 ⊢
      clear h6 h8 hSl hSb hhd hx0e hC8 HC hr5
      by_cases hc : ok = true ∧ ((sk + nn : Nat) : Int) ≤ x0
      · rw [if_pos hc] at HP1
        obtain ⟨rfl, hc2⟩ := hc
        have hc3 : (sk : Int) + nn ≤ x0 := by omega
        have hc4 : ¬ x0 < (sk : Int) + nn := by omega
        have sl := run_slot_slice w8 w6.heap.size (1 + (sk : Int)) (1 + (sk : Int) + (nn : Int)) (by omega) (by omega) (by omega) (by omega)
        rw [show (1 + (sk : Int) + (nn : Int) - (1 + (sk : Int))).toNat = nn by omega, show (106 : Nat) - (1 + (sk : Int)).toNat = 105 - sk by omega, show (1 + (sk : Int)).toNat = 1 + sk by omega] at sl
        have hlS : ((S.drop (1 + sk)).take nn).length = nn := by rw [List.length_take, List.length_drop, H8.out.2]; omega
        have h9 : Sat E w8 (HP.row 5 1 (.slice AV no cV) no (b8s out) * (HP.disk d A * (HP.pt w6.heap.size (.cells (b8s S).toArray 87) * q))) := H8.out.1.perm (by ac_rfl)
        have H9 := Aside.mk (And.intro h9 (And.intro (Sat.ptCells (off := 1 + sk) (l := b8s ((S.drop (1 + sk)).take nn)) H8.out.1 (by unfold b8s; rw [List.length_map, hlS, ← List.map_drop, ← List.map_take])) (show (b8s ((S.drop (1 + sk)).take nn)).length = nn * 1 by rw [b8s_length, hlS, Nat.mul_one])))
        generalize (S.drop (1 + sk)).take nn = T at *
        clear h9 H8 hc2
        go_wp2_with (first | (refine wpList_store_run rfl rfl rfl rfl rfl hr8 ?_) | (at_builtin; refine wpList_append_row slB8 rfl rfl (by rfl) (by rfl) H9.out.1 H9.out.2.1 H9.out.2.2 (b8s_one _) (by unfold maxLen; omega) (by omega) (fun v5 w5 hw5 => ?_); obtain ⟨A5, c5, rfl, -, -⟩ := hw5.row_slice; have HW5 := Aside.mk hw5; clear hw5))
        have HF : Aside (Sat E w5 (HP.row 5 1 (.slice A5 (no + nn) c5) (out ++ T).length (b8s (out ++ T)) * (HP.disk d A * q))) := ⟨by
          rw [List.length_append, b8s_append, hlS, ← HNO.out]
          exact (HW5.out.perm (by ac_rfl : _ = HP.pt w6.heap.size (.cells (b8s S).toArray 87) * (HP.row 5 1 (.slice A5 (no + nn) c5) (no + nn) (b8s out ++ b8s T) * (HP.disk d A * q)))).right⟩
        refine ⟨⟨fr + nn, c, out ++ T, by push_cast; rfl, hnne, by omega, by rw [List.length_append, hlS, ← HNO.out]; omega, ⟨HP1.out.symm⟩, HF⟩, ?_⟩
        simp only [intOf]
        omega
      · rw [if_neg hc] at HP1
        have HX : Aside (partM at_ en fr0 en [] = none) := ⟨HP1.out⟩
        have HF : Aside (Sat E w8 (HP.disk d A * q)) := ⟨(H8.out.1.perm (by ac_rfl : _ = HP.pt w6.heap.size (.cells (b8s S).toArray 87) * (HP.row 5 1 (.slice AV no cV) no (b8s out) * (HP.disk d A * q)))).right.right⟩
        clear H8 HP1
        cases ok with
        | false =>
          clear hc
          go_wp2_with (first | (refine wpList_store_run rfl rfl rfl rfl rfl hr8 ?_))
          go_ret2
          rw [HX.out]
          exact ⟨rfl, HF.out⟩
        | true =>
          have hc4 : x0 < (sk : Int) + nn := by
            have : ¬ ((sk + nn : Nat) : Int) ≤ x0 := fun h => hc ⟨rfl, h⟩
            omega
          clear hc
          go_wp2_with (first | (refine wpList_store_run rfl rfl rfl rfl rfl hr8 ?_))
          go_ret2
          rw [HX.out]
          exact ⟨rfl, HF.out⟩
    · obtain rfl : fr = en := by omega
      have HX : Aside (partM at_ fr fr0 fr [] = some out) := ⟨by
        rw [← HM.out]
        cases c with
        | zero => rfl
        | succ c => unfold partM; rw [if_neg (Nat.lt_irrefl _)]⟩
      have hnl : ¬ (fr : Int) < (fr : Int) := by omega
      clear HM
      go_wp2
      go_ret2
      rw [HX.out]
      exact ⟨_, rfl, HS.out⟩
end Go.Proofs.YtjekeggkckgjfaaDoor
/- A text is stored on a new disk in a stripe, and read: awake of layer 6; what slots are told as where nothing is to be mended. -/
namespace Go.Proofs.YtjekeggkckgjfaaDoor
open Go.RowKit HP
set_option linter.unusedSimpArgs false
set_option linter.unusedVariables false

theorem slotZ_bytes : Bytes slotZ := fun x hx => by rw [List.eq_of_mem_replicate hx]; omega
theorem readT_bytes (file : Nat) {p : List Int} (h : Bytes p) : Bytes (readT file p).1 := by
  unfold readT
  split
  · intro x hx
    rcases List.mem_append.1 hx with hx | hx
    · exact h x hx
    · rw [List.eq_of_mem_replicate hx]; omega
  · exact slotI_bytes (by rw [List.length_take]; omega) (fun x hx => h x (List.mem_of_mem_take hx))
theorem openI_bytesS {b : List Int} {f : ByteArray} {i : Int} {p : List Int} {g : Nat} (h : openI b f i = some (p, g)) (hb : Bytes b) : Bytes p := by
  unfold openI at h
  split at h
  · cases h
  · split at h
    · cases h
    · split at h
      · cases h
      · simp only [Option.some.injEq, Prod.mk.injEq] at h
        rw [← h.1]
        exact fun x hx => hb x (List.mem_of_mem_drop (List.mem_of_mem_take hx))
theorem readS_bytes {A : Dk} {f : ByteArray} {file : Nat} {gen i : Int} (hb : ∀ c, A.cel f i = some c → Bytes c.read) : Bytes (readS A f file gen i).1 := by
  unfold readS
  split
  · exact slotZ_bytes
  · rename_i c hc
    split
    · exact slotZ_bytes
    · rename_i x hx
      split
      · exact slotZ_bytes
      · exact readT_bytes file (openI_bytesS (p := x.1) (g := x.2) hx (hb c hc))
theorem atOk_plain {E : Env} {A : Dk} {x : ByteArray} {gen : Int} (hb : ∀ k, k < 4 → ∀ (i : Int) c, A.cel (stripeF x k) i = some c → Bytes c.read) (hp : ∀ i k : Nat, k < 3 → (slotOf A x gen i k).2 = true ∨ 1 < badN A x gen i 4) : AtOk E A x gen (fun i k => atP A x gen i k) := by
  refine ⟨fun q' b G R n i k w hk hG hw => stripe_at_plain E q' b A x gen i G R n k w (by omega) hG ?_ hw, fun i k => ?_, fun i k hk => ?_⟩
  · rcases hp i k hk with h | h
    · exact .inl h
    · exact .inr (by rw [hG.bad]; exact h)
  · unfold atP
    split
    · exact readS_length _ _ _ _ _
    · rfl
  · unfold atP
    split
    · exact readS_bytes (hb k (by omega) i)
    · exact slotZ_bytes
theorem stRead_at {E : Env} {B : Dk} {x : ByteArray} {gen : Nat} {l : List Int} (h : StRead B x gen l) : AtOk E B x gen (fun i k => atP B x gen i k) ∧ AtText l (fun i k => atP B x gen i k) ∧ ∀ i k, k < 3 → i < groupsN l.length → (atP B x gen i k).2 = true := by
  refine ⟨atOk_plain h.bytes fun i k hk => ?_, ⟨fun i k hk hr => ?_⟩, fun i k hk hi => ?_⟩
  · rcases Nat.lt_or_ge i (groupsN l.length) with hi | hi
    · exact .inl (by rw [h.right i k (by omega) hi])
    · exact .inr (by rw [badN_all 4 (fun j hj => by rw [h.none i j hj hi])]; decide)
  · unfold atP at hr ⊢
    split at hr
    · rename_i h2
      rw [if_pos h2]
      rcases Nat.lt_or_ge i (groupsN l.length) with hi | hi
      · rw [h.right i k (by omega) hi]
        unfold slotT
        rw [if_neg (by omega)]
      · rw [h.none i k (by omega) hi] at h2
        cases h2
    · cases hr
  · unfold atP
    rw [h.right i k (by omega) hi]
    rfl
set_option maxHeartbeats 2000000 in
set_option maxRecDepth 100000 in
theorem awake6_ok (E : Env) (q : HP) (w : World) (hq : ∀ w, Sat E w q → Quarter w) (hw : Sat E w q) :
    Calls Tryd.prog 23 #[] w fun e w' => e = .returned (.bool true) ∧ Sat E w' q := by
  have hx3 : exS.size + 2 ≤ maxLen := by show 3 ≤ maxLen; unfold maxLen; omega
  have HX3 := Aside.mk hx3
  have hb2 : Bytes [97, 98] := by intro x hx; simp at hx; omega
  obtain ⟨B, hB⟩ := storeS_new (room := 10) (x := exS) (gen := 1) (l := [97, 98]) fourX (by omega) (by decide) (by decide)
  have hR := stRead_of hB (by omega) (by decide) hb2
  have HB := Aside.mk (And.intro hB.eq hR)
  have HQ := Aside.mk (And.intro hq hw)
  have HB2 := Aside.mk hb2
  obtain ⟨ha, ht, hr⟩ := stRead_at (E := E) hR
  have HA := Aside.mk ha
  have hpm := partM_read ht hr (fr := 0) (en := 2) (by omega) (by decide)
  have HPM : Aside (partM (fun i k => atP B exS 1 i k) (0 + 2) 0 (0 + 2) [] = some [97, 98]) := ⟨hpm⟩
  clear hx3 hB hR hq hw hb2 ha ht hr hpm
  go_enter Tryd.func23, Tryd.ntmps23
  go_wp2_with fail
  refine (disk_new_ok E q 10 _ ⟨by omega, by omega⟩ HQ.out.2).mono ?_
  rintro e w1 ⟨d, rfl, h1⟩
  have h2 := h1.alloc (.cells #[.int .u8 97, .int .u8 98] 5 (2, 3))
  have H2 : Aside (Sat E (w1.alloc (.cells #[.int .u8 97, .int .u8 98] 5 (2, 3))) (HP.disk d (Dk.new 10) * (HP.pt w1.heap.size (.cells (b8s [97, 98]).toArray 5 (2, 3)) * q))) := ⟨h2.perm (by ac_rfl)⟩
  have HQ2 : Aside (∀ w, Sat E w (HP.pt w1.heap.size (.cells (b8s [97, 98]).toArray 5 (2, 3)) * q) → Quarter w ∧ Cells w (some ⟨w1.heap.size, 0, none⟩) (b8s [97, 98])) := ⟨fun w h => ⟨HQ.out.1 w h.right, h.ptCells rfl⟩⟩
  have cv : (convert 22 22 (.slice (some ⟨w1.heap.size, 0, none⟩) 2 2)).run Tryd.prog (w1.alloc (.cells #[.int .u8 97, .int .u8 98] 5)) = .ok (.slice (some ⟨w1.heap.size, 0, none⟩) 2 2) (w1.alloc (.cells #[.int .u8 97, .int .u8 98] 5 (2, 3))) := Lib.run_convert_bytes_const w1 _ _ #[.int .u8 97, .int .u8 98] 2 2 Tryd.underlying22 Tryd.underlying5
  have HL : Aside ((2 : Nat) ≤ maxLen) := ⟨by unfold maxLen; omega⟩
  clear h1 h2
  go_wp2_with fail
  refine (stripe_store E _ d (Dk.new 10) exS 1 (some ⟨w1.heap.size, 0, none⟩) [97, 98] 2 2 _ HX3.out (by omega) rfl (by omega) HL.out (by omega) HB2.out HQ2.out H2.out).mono ?_
  rintro e w2 ⟨rfl, h2⟩
  rw [HB.out.1] at h2 ⊢
  have H3 : Aside (Sat E w2 (HP.disk d B * q)) := ⟨h2.perm (by ac_rfl : _ = HP.pt w1.heap.size (.cells (b8s [97, 98]).toArray 5 (2, 3)) * (HP.disk d B * q)) |>.right⟩
  clear h2 H2 HQ2
  go_wp2_with fail
  refine (stripe_part E q d B exS 1 0 2 (fun i k => atP B exS 1 i k) _ HX3.out (by omega) (by omega) HB.out.2.bytes HA.out HQ.out.1 H3.out).mono ?_
  intro e w3 h3
  rw [HPM.out] at h3
  obtain ⟨v, rfl, h3⟩ := h3
  obtain ⟨Av, cv, rfl, -, -⟩ := h3.row_slice
  have e0 : (convert 22 9 (.slice Av 2 cv)).run Tryd.prog w3 = .ok (.string ⟨#[97, 98]⟩) w3 := run_string (P := Tryd.prog) (c := cv) Tryd.underlying22 Tryd.underlying5 Tryd.underlying9 h3.row_cells
  have H4 := Aside.mk h3
  clear h3 H3
  go_wp2
  go_ret
  exact ⟨rfl, H4.out.right.right⟩
end Go.Proofs.YtjekeggkckgjfaaDoor
/- StripeTwo, the plain part: two extents of a group turned. -/
namespace Go.Proofs.YtjekeggkckgjfaaDoor
open Go.RowKit HP
set_option linter.unusedSimpArgs false
set_option linter.unusedVariables false

/-- What becomes of a disk of which one byte of one extent is turned. -/
structure Rotted (A B : Dk) (f : ByteArray) (i : Nat) (I : List Int) : Prop where
  sorted : Sorted B.files
  turned : ∃ c, B.cel f i = some c ∧ c.read = I
  others : ∀ g (j : Int), g ≠ f ∨ j ≠ i → B.cel g j = A.cel g j
theorem cel_set_other {A : Dk} (hs : Sorted A.files) {f g : ByteArray} {k : Nat} {j : Int} {d : Cel} (h : g ≠ f ∨ j ≠ k) : (A.set f ((A.at f).set k d)).cel g j = A.cel g j := by
  unfold Dk.cel
  rw [at_set hs]
  by_cases e : f = g
  · subst e
    rw [if_pos rfl]
    have hj : j ≠ k := by
      rcases h with h | h
      · exact absurd rfl h
      · exact h
    split
    · rw [List.getElem?_set_ne (by omega)]
    · rfl
  · rw [if_neg e]
theorem rotted_of {A : Dk} {f : ByteArray} {k t : Nat} {m : Int} {I : List Int} (hs : Sorted A.files) (hc : A.cel f k = some (stl I)) (ht : t < 128) : (A.rot f k t m).1 = 0 ∧ Rotted A (A.rot f k t m).2 f k (xorAt I t m) := by
  rw [rot_at hc ht]
  exact ⟨rfl, sorted_put _ _ hs, ⟨_, cel_set_self hs hc, rfl⟩, fun g j h => cel_set_other hs h⟩
theorem stripeF_ne {x : ByteArray} (h : FourNames x) {j k : Nat} (hj : j < 4) (hk : k < 4) (e : j ≠ k) : stripeF x j ≠ stripeF x k := by
  have hp := h.ne
  simp only [List.pairwise_cons, List.mem_cons, List.not_mem_nil, or_false, forall_eq_or_imp, forall_eq, List.Pairwise.nil, and_true, false_implies, implies_true] at hp
  have cj : j = 0 ∨ j = 1 ∨ j = 2 ∨ j = 3 := by omega
  have ck : k = 0 ∨ k = 1 ∨ k = 2 ∨ k = 3 := by omega
  obtain ⟨⟨a, b, c⟩, ⟨d, e'⟩, f⟩ := hp
  rcases cj with rfl | rfl | rfl | rfl <;> rcases ck with rfl | rfl | rfl | rfl <;> first | exact absurd rfl e | (simp only [stripeF_0, stripeF_1, stripeF_2, stripeF_3]; first | assumption | exact Ne.symm (by assumption))
theorem readS_same {A B : Dk} {f : ByteArray} {file : Nat} {gen i : Int} (h : B.cel f i = A.cel f i) : readS B f file gen i = readS A f file gen i := by
  unfold readS
  rw [h]
theorem readS_turned {B : Dk} {f : ByteArray} {file : Nat} {gen i : Int} {c : Cel} (hc : B.cel f i = some c) (h : openI c.read f i = none) : readS B f file gen i = (slotZ, false) := by
  unfold readS
  rw [hc]
  dsimp only
  rw [h]
theorem badN_mono {A : Dk} {x : ByteArray} {gen i : Int} : ∀ k, badN A x gen i k ≤ badN A x gen i (k + 1) := fun k => by
  rw [badN]
  omega
theorem badN_two {A : Dk} {x : ByteArray} {gen i : Int} {f h : Nat} (hf : f < 4) (hh : h < 4) (e : f ≠ h) (bf : (slotOf A x gen i f).2 = false) (bh : (slotOf A x gen i h).2 = false) : 1 < badN A x gen i 4 := by
  have cf : f = 0 ∨ f = 1 ∨ f = 2 ∨ f = 3 := by omega
  have ch : h = 0 ∨ h = 1 ∨ h = 2 ∨ h = 3 := by omega
  rcases cf with rfl | rfl | rfl | rfl <;> rcases ch with rfl | rfl | rfl | rfl <;> first | exact absurd rfl e | (simp only [badN, bf, bh]; simp; try omega)
structure StTwo (B : Dk) (x : ByteArray) (gen : Nat) (l : List Int) (g f h : Nat) : Prop where
  bytes : ∀ k, k < 4 → ∀ (i : Int) c, B.cel (stripeF x k) i = some c → Bytes c.read
  bad : 1 < badN B x gen g 4
  ok : ∀ i k : Nat, k < 3 → (slotOf B x gen i k).2 = true ∨ 1 < badN B x gen i 4
  text : ∀ i k : Nat, k < 3 → (slotOf B x gen i k).2 = true → slotOf B x gen i k = (slotT l i k, true)
/-- Two bytes of two extents of one group are turned. -/
theorem stTwo_of {room : Int} {A : Dk} {x : ByteArray} {gen : Nat} {l : List Int} (N : FourNames x) (hA : StHas room x gen l A) (hg : gen ≤ 4611686018427387904) (hn : groupsN l.length ≤ 2147483647) (hb : Bytes l) {g f h s t : Nat} {m n : Int} (hgr : g < groupsN l.length) (hf : f < 4) (hh : h < 4) (e : f ≠ h) (hs : s < 128) (ht : t < 128) (hm : 0 < m) (hm2 : m ≤ 255) (hn1 : 0 < n) (hn2 : n ≤ 255) :
    (A.rot (stripeF x f) g s m).1 = 0 ∧ StTwo ((A.rot (stripeF x f) g s m).2.rot (stripeF x h) g t n).2 x gen l g f h := by
  have hR := stRead_of hA hg hn hb
  have ca : ∀ k, k < 4 → A.cel (stripeF x k) (g : Int) = some (stl (extI (stripeF x k) g gen (payS l g k))) := fun k hk => held_cel (hA.held k hk) (paysS_get l _ k hgr)
  have hne : stripeF x h ≠ stripeF x f := stripeF_ne N hh hf (Ne.symm e)
  obtain ⟨r1, R1⟩ := rotted_of (m := m) hA.sorted (ca f hf) hs
  refine ⟨r1, ?_⟩
  generalize (A.rot (stripeF x f) (g : Int) (s : Int) m).2 = B1 at *
  have cb : B1.cel (stripeF x h) (g : Int) = some (stl (extI (stripeF x h) g gen (payS l g h))) := by rw [R1.others _ _ (.inl hne)]; exact ca h hh
  obtain ⟨r2, R2⟩ := rotted_of (m := n) R1.sorted cb ht
  generalize (B1.rot (stripeF x h) (g : Int) (t : Int) n).2 = B2 at *
  obtain ⟨c1, hc1, hr1⟩ := R1.turned
  obtain ⟨c2, hc2, hr2⟩ := R2.turned
  have hc1' : B2.cel (stripeF x f) (g : Int) = some c1 := by rw [R2.others _ _ (.inl (Ne.symm hne))]; exact hc1
  have bf : slotOf B2 x gen g f = (slotZ, false) := readS_turned hc1' (by rw [hr1]; exact openI_xorAt (payS_length l g f) (payS_bytes hb g f) hs hm hm2)
  have bh : slotOf B2 x gen g h = (slotZ, false) := readS_turned hc2 (by rw [hr2]; exact openI_xorAt (payS_length l g h) (payS_bytes hb g h) ht hn1 hn2)
  have bad : 1 < badN B2 x gen g 4 := badN_two hf hh e (by rw [bf]) (by rw [bh])
  have same : ∀ k (j : Int), k < 4 → j ≠ g → B2.cel (stripeF x k) j = A.cel (stripeF x k) j := fun k j hk hj => by rw [R2.others _ _ (.inr hj), R1.others _ _ (.inr hj)]
  have hs2 : ∀ i j : Nat, j < 4 → i ≠ g → slotOf B2 x gen i j = slotOf A x gen i j := fun i j hj hi => readS_same (same j i hj (by omega))
  refine ⟨fun k hk j c hc => ?_, bad, fun i k hk => ?_, fun i k hk hr => ?_⟩
  · by_cases ej : j = g
    · subst ej
      by_cases ekh : k = h
      · subst ekh
        rw [hc2] at hc
        cases hc
        rw [hr2]
        exact xorAt_bytes (extI_bytes (payS_length l g k) (payS_bytes hb g k)) (by omega) hn2
      · by_cases ekf : k = f
        · subst ekf
          rw [hc1'] at hc
          cases hc
          rw [hr1]
          exact xorAt_bytes (extI_bytes (payS_length l g k) (payS_bytes hb g k)) (by omega) hm2
        · rw [R2.others _ _ (.inl (stripeF_ne N hk hh ekh)), R1.others _ _ (.inl (stripeF_ne N hk hf ekf))] at hc
          exact hR.bytes k hk _ c hc
    · rw [same k j hk ej] at hc
      exact hR.bytes k hk j c hc
  · by_cases ei : i = g
    · subst ei
      exact .inr bad
    · rcases Nat.lt_or_ge i (groupsN l.length) with hi | hi
      · left
        rw [hs2 i k (by omega) ei, hR.right i k (by omega) hi]
      · right
        rw [badN_all 4 (fun j hj => by rw [hs2 i j hj ei, hR.none i j hj hi])]
        decide
  · by_cases ei : i = g
    · subst ei
      by_cases ekh : k = h
      · subst ekh
        rw [bh] at hr
        cases hr
      · by_cases ekf : k = f
        · subst ekf
          rw [bf] at hr
          cases hr
        · have : slotOf B2 x gen i k = slotOf A x gen i k := readS_same (by rw [R2.others _ _ (.inl (stripeF_ne N (by omega) hh ekh)), R1.others _ _ (.inl (stripeF_ne N (by omega) hf ekf))])
          rw [this, hR.right i k (by omega) hgr]
    · rw [hs2 i k (by omega) ei] at hr ⊢
      rcases Nat.lt_or_ge i (groupsN l.length) with hi | hi
      · exact hR.right i k (by omega) hi
      · rw [hR.none i k (by omega) hi] at hr
        cases hr
theorem stTwo_at {E : Env} {B : Dk} {x : ByteArray} {gen : Nat} {l : List Int} {g f h : Nat} (T : StTwo B x gen l g f h) : AtOk E B x gen (fun i k => atP B x gen i k) ∧ AtText l (fun i k => atP B x gen i k) := by
  refine ⟨atOk_plain T.bytes T.ok, ⟨fun i k hk hr => ?_⟩⟩
  unfold atP at hr ⊢
  split at hr
  · rename_i h2
    rw [if_pos h2, T.text i k hk h2]
    unfold slotT
    rw [if_neg (by omega)]
  · cases hr
end Go.Proofs.YtjekeggkckgjfaaDoor
/- stripe.Mend where more than one extent of a group is not right. -/
namespace Go.Proofs.YtjekeggkckgjfaaDoor
open Go.RowKit HP
set_option linter.unusedSimpArgs false
set_option linter.unusedVariables false

theorem badN_right {A : Dk} {x : ByteArray} {gen i : Int} : ∀ k, (∀ j, j < k → (slotOf A x gen i j).2 = true) → badN A x gen i k = 0
  | 0, _ => rfl
  | k + 1, h => by
    rw [badN, badN_right k (fun j hj => h j (by omega)), h k (by omega)]
    rfl
set_option maxHeartbeats 4000000 in
set_option maxRecDepth 100000 in
theorem stripe_mend_lost (E : Env) (q : HP) (d : Nat) (A : Dk) (name : ByteArray) (gen : Int) (i : Nat) (w : World) (hname : name.size + 2 ≤ maxLen) (hi : i ≤ 2147483647) (hby : ∀ k, k < 4 → ∀ (i : Int) c, A.cel (stripeF name k) i = some c → Bytes c.read)
    (hbad : 1 < badN A name gen i 4) (hq : ∀ w, Sat E w q → Quarter w) (hw : Sat E w (HP.disk d A * q)) :
    Calls Tryd.prog 21 #[.pointer (some ⟨d, 0, none⟩), .string name, .int .i64 gen, .int .i64 i] w fun e w' => e = .returned (.tuple #[.bool false, .int .i64 50]) ∧ Sat E w' (HP.disk d A * q) := by
  have HQ := Aside.mk (And.intro hq (And.intro hby (And.intro hbad (And.intro hw hname))))
  clear hq hby hbad hw hname
  go_enter Tryd.func21, Tryd.ntmps21
  go_wp2_with fail
  refine (stripe_none E q d A _ HQ.out.2.2.2.1).mono ?_
  rintro e w1 ⟨rfl, h1⟩
  have H1 := Aside.mk h1
  clear h1
  go_wp2_with fail
  refine (stripe_look E q d A name gen i _ HQ.out.2.2.2.2 (fun k hk c => HQ.out.2.1 k hk _ c) HQ.out.1 H1.out).mono ?_
  intro e w3 h3
  obtain ⟨G, R, n, rfl, hG, h3⟩ := h3
  have h4 := h3.alloc (.cells Tryd.zeroCells100 100)
  obtain ⟨w5, hr5, h5⟩ := run_store_grp (n := n) hG.len hG.rlen h4
  have H5 := Aside.mk (And.intro h5 hG)
  obtain ⟨C, hC⟩ : ∃ C, C = (gCells G R n).toArray := ⟨_, rfl⟩
  rw [← hC] at hr5 ⊢
  clear h3 h4 h5 hG hC H1
  go_wp2_with (first | (refine wpList_store_run rfl rfl rfl rfl rfl hr5 ?_))
  refine (stripe_names E _ name _ HQ.out.2.2.2.2 H5.out.1).mono ?_
  rintro e w6 ⟨rfl, h6⟩
  obtain ⟨fa, hfae⟩ : ∃ fa, fa = name ++ dot0 := ⟨_, rfl⟩
  obtain ⟨fb, hfbe⟩ : ∃ fb, fb = name ++ dot1 := ⟨_, rfl⟩
  obtain ⟨fc, hfce⟩ : ∃ fc, fc = name ++ dot2 := ⟨_, rfl⟩
  obtain ⟨fd, hfde⟩ : ∃ fd, fd = name ++ dotP := ⟨_, rfl⟩
  rw [← hfae, ← hfbe, ← hfce, ← hfde]
  have i0 : ∀ w, (Instr.index 91 (.agg #[.string fa, .string fb, .string fc, .string fd]) (.int .i64 0)).run Tryd.prog w = .ok (.string fa) w := fun w => by kernel_rfl
  have i1 : ∀ w, (Instr.index 91 (.agg #[.string fa, .string fb, .string fc, .string fd]) (.int .i64 1)).run Tryd.prog w = .ok (.string fb) w := fun w => by kernel_rfl
  have i2 : ∀ w, (Instr.index 91 (.agg #[.string fa, .string fb, .string fc, .string fd]) (.int .i64 2)).run Tryd.prog w = .ok (.string fc) w := fun w => by kernel_rfl
  have i3 : ∀ w, (Instr.index 91 (.agg #[.string fa, .string fb, .string fc, .string fd]) (.int .i64 3)).run Tryd.prog w = .ok (.string fd) w := fun w => by kernel_rfl
  clear hfae hfbe hfce hfde
  have H6 := Aside.mk (And.intro h6 H5.out.2)
  clear h6 H5 hr5
  obtain ⟨bG, hbG⟩ : ∃ bG, bG = w3.heap.size := ⟨_, rfl⟩
  rw [← hbG] at H6 ⊢
  clear hbG
  go_wp2
  go_loopw [34] (fun v34 wr => ∃ k : Nat, k ≤ 4 ∧ v34 = .int .i64 k ∧ Aside (∀ j, j < k → (slotOf A name gen i j).2 = true) ∧ Aside (Sat E wr (HP.pt bG (.cells (gCells G R n).toArray 100) * (HP.disk d A * q)))) (fun i _ => 4 - (intOf i).toNat)
  case atStart => exact ⟨0, by omega, rfl, ⟨fun j h => by omega⟩, ⟨H6.out.1⟩⟩
  case round =>
    obtain ⟨k, hk, rfl, HR, HS⟩ := hrel
    by_cases hlt : k < 4
    · obtain ⟨f, hix⟩ : ∃ f : ByteArray, ∀ w, (Instr.index 91 (.agg #[.string fa, .string fb, .string fc, .string fd]) (.int .i64 (k : Int))).run Tryd.prog w = .ok (.string f) w := by
        have hc : k = 0 ∨ k = 1 ∨ k = 2 ∨ k = 3 := by omega
        rcases hc with h0 | h0 | h0 | h0 <;> subst h0
        · exact ⟨fa, i0⟩
        · exact ⟨fb, i1⟩
        · exact ⟨fc, i2⟩
        · exact ⟨fd, i3⟩
      have hlt2 : (k : Int) < 4 := by omega
      have hG := H6.out.2
      have g1 : ∀ w', Sat E w' (HP.pt bG (.cells (gCells G R n).toArray 100) * (HP.disk d A * q)) → w'.cell? ⟨bG, 424 + k, none⟩ = some (.bool (slotOf A name gen i k).2) := fun w' h => by
        rw [h.cell (424 + k)]
        exact gCells_right hG.len (hG.right k hlt)
      have g2 := g1 _ HS.out
      have HAT := Aside.mk (stripe_at_plain E (HP.disk d A * q) bG A name gen i G R n k wr hlt hG (.inr (by rw [hG.bad]; exact HQ.out.2.2.1)) HS.out)
      clear i0 i1 i2 i3 g1 hG
      by_cases hr : (slotOf A name gen i k).2 = true
      · rw [hr] at g2
        have HR2 : Aside (∀ j, j < k + 1 → (slotOf A name gen i j).2 = true) := ⟨fun j hj => by
          by_cases e : j = k
          · rw [e]; exact hr
          · exact HR.out j (by omega)⟩
        clear hr HAT HR
        go_wp2
        go_roundw
        case rel => exact ⟨k + 1, by omega, by push_cast; rfl, HR2, HS⟩
        case measure => simp [intOf]; omega
      · have HP2 : Aside (atP A name gen i k = (slotZ, false)) := ⟨by unfold atP; rw [if_neg hr]⟩
        rw [HP2.out] at HAT
        rw [Bool.not_eq_true] at hr
        rw [hr] at g2
        clear hr HP2 HR HS
        go_wp2_with fail
        refine HAT.out.mono ?_
        rintro e w7 ⟨rfl, h7⟩
        obtain ⟨w8, hr8, h8⟩ := run_store_zero (S := slotZ) (List.length_replicate ..) (h7.right.alloc (.cells Tryd.zeroCells87 87))
        have H8 := Aside.mk h8.right
        clear h7 h8
        generalize (b8s slotZ).toArray = Z at *
        go_wp2_with (first | (refine wpList_store_run rfl rfl rfl rfl rfl hr8 ?_))
        go_ret2
        exact ⟨rfl, H8.out⟩
    · obtain rfl : k = 4 := by omega
      have := badN_right (A := A) (x := name) (gen := gen) (i := i) 4 HR.out
      have := HQ.out.2.2.1
      omega
end Go.Proofs.YtjekeggkckgjfaaDoor
/- StripeParts: the walk. -/
namespace Go.Proofs.YtjekeggkckgjfaaDoor
open Go.RowKit HP
set_option linter.unusedSimpArgs false
set_option linter.unusedVariables false

theorem tmod_emod {a b : Int} (h : 0 ≤ a) : a.tmod b = a % b := Int.tmod_eq_emod_of_nonneg h
set_option maxHeartbeats 2000000 in
set_option maxRecDepth 100000 in
theorem stripeParts_ok (E : Env) (q : HP) (A0 : Option Addr) (l0 : List Int) (n0 c0 : Nat) (gz fz tz : Int) (w : World) (e0 : l0.length = n0) (k0 : n0 ≤ c0) (m0 : c0 ≤ maxLen) (b0 : Bytes l0)
    (hq : ∀ w, Sat E w q → Quarter w ∧ Cells w A0 (b8s l0)) (hw : Sat E w q) :
    Calls Tryd.prog 4 #[.slice A0 n0 c0, .int .i64 gz, .int .i64 fz, .int .i64 tz] w fun e w' => e = .returned (.bool true) ∧ Sat E w' q := by
  obtain ⟨m, hm⟩ : ∃ m, m = min n0 1500 := ⟨_, rfl⟩
  have hn0 : (if 1500 < (n0 : Int) then 1500 else (n0 : Int)) = (m : Int) := by split <;> omega
  have hn1 : (min (n0 : Int) 1500).toNat = m := by omega
  obtain ⟨t, ht⟩ : ∃ t, t = l0.take m := ⟨_, rfl⟩
  have htl : t.length = m := by rw [ht, List.length_take]; omega
  have htb : Bytes t := by rw [ht]; exact fun x hx => b0 x (List.mem_of_mem_take hx)
  have htc : ∀ w, Sat E w q → Quarter w ∧ Cells w A0 (b8s t) := fun w h => ⟨(hq w h).1, by
    have := (hq w h).2.take m
    rw [ht]
    unfold b8s at this ⊢
    rw [List.map_take]; exact this⟩
  have hgb := groupsN_bounds m
  have hm5 : m ≤ 1500 := by omega
  have hG5 : groupsN m ≤ 5 := by
    unfold groupsN
    split <;> omega
  obtain ⟨gen, hgen, hzg⟩ : ∃ gen : Nat, gen ≤ 4611686018427387904 ∧ wrap64 ((IntKind.u64.wrap gz).tmod 4611686018427387905) = (gen : Int) := by
    rw [IntKind.wrap_u64, tmod_emod (by omega)]
    refine ⟨(gz % 18446744073709551616 % 4611686018427387905).toNat, by omega, ?_⟩
    unfold wrap64
    omega
  obtain ⟨fr, hfr, hzf⟩ : ∃ fr : Nat, fr ≤ m ∧ wrap64 ((IntKind.u64.wrap fz).tmod ((m : Int) + 1)) = (fr : Int) := by
    rw [IntKind.wrap_u64, tmod_emod (by omega)]
    have h2 := Int.emod_lt_of_pos (fz % 18446744073709551616) (show (0 : Int) < (m : Int) + 1 by omega)
    have h3 := Int.emod_nonneg (fz % 18446744073709551616) (show (m : Int) + 1 ≠ 0 by omega)
    refine ⟨(fz % 18446744073709551616 % ((m : Int) + 1)).toNat, by omega, ?_⟩
    rw [Int.toNat_of_nonneg h3]
    unfold wrap64
    omega
  obtain ⟨rs, hrs⟩ : ∃ rs : Nat, (m : Int) - (fr : Int) + 1 = (rs : Int) := ⟨m - fr + 1, by omega⟩
  obtain ⟨sz, hsz, hzs⟩ : ∃ sz : Nat, fr + sz ≤ m ∧ wrap64 ((IntKind.u64.wrap tz).tmod (rs : Int)) = (sz : Int) := by
    rw [IntKind.wrap_u64, tmod_emod (by omega)]
    have h2 := Int.emod_lt_of_pos (tz % 18446744073709551616) (show (0 : Int) < (rs : Int) by omega)
    have h3 := Int.emod_nonneg (tz % 18446744073709551616) (show (rs : Int) ≠ 0 by omega)
    refine ⟨(tz % 18446744073709551616 % (rs : Int)).toNat, by omega, ?_⟩
    rw [Int.toNat_of_nonneg h3]
    unfold wrap64
    omega
  have hsub : (fr : Int) + (sz : Int) - (fr : Int) = (sz : Int) := by omega
  obtain ⟨B, hB⟩ := storeS_new (room := 40) (x := exS) (gen := gen) (l := t) fourX (by omega) (by rw [htl]; omega) (by rw [htl]; omega)
  have hR := stRead_of hB (by omega) (by rw [htl]; omega) htb
  obtain ⟨ha, hx, hr⟩ := stRead_at (E := E) hR
  have hp1 := partM_read hx hr (fr := fr) (en := fr + sz) (by omega) (by omega)
  have hp2 := partM_beyond hx (fr := fr) (en := fr + rs) (by omega) (by omega)
  rw [show fr + sz - fr = sz by omega] at hp1
  have HB := Aside.mk (And.intro hB.eq (And.intro hR.bytes ha))
  have HP1 := Aside.mk hp1
  have HP2 := Aside.mk hp2
  have HQ := Aside.mk (And.intro htc (And.intro hw (And.intro m0 (And.intro htl htb))))
  have hx3 : exS.size + 2 ≤ maxLen := by show 3 ≤ maxLen; unfold maxLen; omega
  have HX3 := Aside.mk hx3
  have hmc : m ≤ c0 := by omega
  have hmn : m ≤ n0 := by omega
  clear hq hw m0 htc htl htb hB hR hm ht b0 e0 hgb hG5 hx3 ha hx hr hp1 hp2
  go_enter Tryd.func4, Tryd.ntmps4
  go_wp2_with fail
  refine (disk_new_ok E q 40 _ ⟨by omega, by omega⟩ HQ.out.2.1).mono ?_
  rintro e w1 ⟨d, rfl, h1⟩
  have H1 := Aside.mk h1
  clear h1
  go_wp2_with fail
  refine (stripe_store E q d (Dk.new 40) exS gen A0 t m c0 _ HX3.out (by omega) HQ.out.2.2.2.1 hmc HQ.out.2.2.1 (by omega) HQ.out.2.2.2.2 HQ.out.1 H1.out).mono ?_
  rintro e w2 ⟨rfl, h2⟩
  rw [HB.out.1] at h2 ⊢
  have H2 := Aside.mk h2
  clear h2 H1
  have hwM : IntKind.u64.wrap ((m : Int) + 1) = (m : Int) + 1 := by rw [IntKind.wrap_u64]; omega
  have hM0 : ¬ (m : Int) + 1 = 0 := by omega
  have hM0b : ((m : Int) + 1 == 0) = false := by rw [beq_eq_false_iff_ne]; omega
  have hwN : IntKind.u64.wrap (rs : Int) = (rs : Int) := by rw [IntKind.wrap_u64]; omega
  have hN0 : ¬ (rs : Int) = 0 := by omega
  have hN0b : ((rs : Int) == 0) = false := by rw [beq_eq_false_iff_ne]; omega
  go_wp2_with fail
  refine (stripe_part E q d B exS gen fr sz (fun i k => atP B exS gen i k) _ HX3.out (by omega) (by omega) HB.out.2.1 HB.out.2.2 (fun w h => (HQ.out.1 w h).1) H2.out).mono ?_
  intro e w3 h3
  rw [HP1.out] at h3
  obtain ⟨v, rfl, h3⟩ := h3
  have hPl : ((t.drop fr).take sz).length = sz := by rw [List.length_take, List.length_drop, HQ.out.2.2.2.1]; omega
  have hPb : Bytes ((t.drop fr).take sz) := fun x hx => HQ.out.2.2.2.2 x (List.mem_of_mem_drop (List.mem_of_mem_take hx))
  have hcut : ∀ w, Sat E w q → Cells w (cutA A0 c0 fr) (b8s ((t.drop fr).take sz)) := fun w h => by
    have := cut_cells (a := fr) (b := fr + sz) (HQ.out.1 w h).2 (by omega) (show fr + sz ≤ c0 by omega) (by rw [HQ.out.2.2.2.1]; omega)
    rwa [show fr + sz - fr = sz by omega] at this
  rw [hPl] at h3
  obtain ⟨P, hP⟩ : ∃ P, P = (t.drop fr).take sz := ⟨_, rfl⟩
  rw [← hP] at h3 hPl hPb hcut
  obtain ⟨Av, cv, rfl, -, -⟩ := h3.row_slice
  have H3 := Aside.mk h3
  have HPP := Aside.mk (And.intro hPl (And.intro hPb hcut))
  clear h3 H2 hP hPl hPb hcut HP1
  go_wp2_with fail
  refine (stripe_part E (HP.row 5 1 (.slice Av sz cv) sz (b8s P) * q) d B exS gen fr rs (fun i k => atP B exS gen i k) _ HX3.out (by omega) (by omega) HB.out.2.1 HB.out.2.2 (fun w h => (HQ.out.1 w h.right).1) H3.out.s2).mono ?_
  intro e w4 h4
  rw [HP2.out] at h4
  obtain ⟨rfl, h4⟩ := h4
  have sl := run_cut_bytes w4 A0 m c0 fr (fr + sz) (by omega) (by omega)
  rw [show fr + sz - fr = sz by omega] at sl
  push_cast at sl
  have H4 := Aside.mk h4
  clear h4 H3 HP2
  go_wp2_with fail
  refine (bytesEq_ok Av (cutA A0 c0 fr) P P sz sz cv (c0 - fr) _ HPP.out.1 HPP.out.1 H4.out.right.row_cells (HPP.out.2.2 _ H4.out.right.right) HPP.out.2.1 HPP.out.2.1).mono ?_
  rintro e w5 ⟨rfl, hw5⟩
  subst w5
  rw [decide_eq_true rfl]
  go_wp2
  go_ret
  exact ⟨rfl, H4.out.right.right⟩
end Go.Proofs.YtjekeggkckgjfaaDoor
