/- pair.Mend, in plain words: both halves made the better one. -/
import Derived.Test.YtanlgadijndmaaaDoorSv9
import Derived.Lib.SlBytesConst
namespace Go.Proofs.YtanlgadijndmaaaDoor
open Go.RowKit HP
set_option linter.unusedSimpArgs false
set_option linter.unusedVariables false

/-- Each half that reads otherwise than the better one is written, and synced. -/
def mendL (i g : Nat) (p : List Int) (wrote : Bool) (A : Dk) : List ByteArray → (Bool × Int) × Dk
  | [] => ((wrote, 0), A)
  | f :: r =>
    if readO A f i = extI f i g p then mendL i g p wrote A r
    else if (A.write f i (extI f i g p)).1 = 0 then
      if ((A.write f i (extI f i g p)).2.sync f).1 = 0 then mendL i g p true ((A.write f i (extI f i g p)).2.sync f).2 r
      else ((false, ((A.write f i (extI f i g p)).2.sync f).1), ((A.write f i (extI f i g p)).2.sync f).2)
    else ((false, (A.write f i (extI f i g p)).1), (A.write f i (extI f i g p)).2)
theorem mendL_nil (i g : Nat) (p : List Int) (wrote : Bool) (A : Dk) : mendL i g p wrote A [] = ((wrote, 0), A) := rfl
theorem mendL_cons (i g : Nat) (p : List Int) (wrote : Bool) (A : Dk) (f : ByteArray) (r : List ByteArray) : mendL i g p wrote A (f :: r) =
    if readO A f i = extI f i g p then mendL i g p wrote A r
    else if (A.write f i (extI f i g p)).1 = 0 then
      if ((A.write f i (extI f i g p)).2.sync f).1 = 0 then mendL i g p true ((A.write f i (extI f i g p)).2.sync f).2 r
      else ((false, ((A.write f i (extI f i g p)).2.sync f).1), ((A.write f i (extI f i g p)).2.sync f).2)
    else ((false, (A.write f i (extI f i g p)).1), (A.write f i (extI f i g p)).2) := rfl
def mendP (A : Dk) (name : ByteArray) (i : Int) : (Bool × Int) × Dk :=
  if (getP A name i).1 < 0 then ((false, 50), A) else mendL i.toNat (getP A name i).1.toNat (getP A name i).2 false A (halvesL name)
theorem openI_index {b : List Int} {f : ByteArray} {i : Int} {x : List Int × Nat} (h : openI b f i = some x) : 0 ≤ i ∧ i ≤ 2147483647 := by
  unfold openI at h
  split at h
  · cases h
  · rename_i h1
    omega
structure GotOk (i : Int) (st : Int × List Int) : Prop where
  place : 0 ≤ st.1 → 0 ≤ i ∧ i ≤ 2147483647
  gen : st.1 ≤ 4611686018427387904
  len : st.2.length ≤ 106
theorem getF_ok {A : Dk} {i : Int} {st : Int × List Int} {f : ByteArray} (h : GotOk i st) : GotOk i (getF A i st f) := by
  unfold getF
  cases A.cel f i with
  | none => exact h
  | some c =>
    dsimp only
    cases ho : openI c.read f i with
    | none => exact h
    | some x =>
      dsimp only
      split
      · exact h
      · have h1 := openI_gen (p := x.1) (g := x.2) ho
        exact ⟨fun _ => openI_index ho, h1.1, h1.2⟩
theorem getP_ok (A : Dk) (name : ByteArray) (i : Int) : GotOk i (getP A name i) := by
  unfold getP halvesL
  exact getF_ok (getF_ok ⟨fun h => absurd h (by show ¬ (0 : Int) ≤ -1; omega), by show (-1 : Int) ≤ _; omega, by show 0 ≤ 106; omega⟩)
theorem getF_byt {A : Dk} {i : Int} {st : Int × List Int} {f : ByteArray} (hs : Bytes st.2) (hb : ∀ c, A.cel f i = some c → Bytes c.read) : Bytes (getF A i st f).2 := by
  unfold getF
  cases hc : A.cel f i with
  | none => exact hs
  | some c =>
    dsimp only
    cases ho : openI c.read f i with
    | none => exact hs
    | some x =>
      dsimp only
      split
      · exact hs
      · have h := ho
        unfold openI at h
        split at h
        · cases h
        · split at h
          · cases h
          · split at h
            · cases h
            · simp only [Option.some.injEq] at h
              rw [← h]
              exact fun y hy => hb c hc y (List.mem_of_mem_drop (List.mem_of_mem_take hy))
theorem getP_byt {A : Dk} {name : ByteArray} {i : Int} (hb : ∀ f ∈ halvesL name, ∀ c, A.cel f i = some c → Bytes c.read) : Bytes (getP A name i).2 := by
  unfold getP halvesL
  exact getF_byt (getF_byt (fun x hx => by cases hx) (hb _ (List.mem_cons_self ..))) (hb _ (List.mem_cons_of_mem _ (List.mem_cons_self ..)))
theorem halves_ne (x : ByteArray) : x ++ dotA ≠ x ++ dotB := fun h => by
  have h1 : (x ++ dotA).data = (x ++ dotB).data := by rw [h]
  rw [ByteArray.data_append, ByteArray.data_append] at h1
  have h2 := congrArg Array.toList h1
  simp only [Array.toList_append, List.append_cancel_left_eq] at h2
  exact absurd h2 (by decide)
theorem write_at_ne {A : Dk} (hs : Sorted A.files) {f t : ByteArray} (ht : f ≠ t) (i : Int) (b : List Int) : (A.write f i b).2.at t = A.at t := by
  unfold Dk.write
  have hs2 : Sorted A.burnt.files := hs
  split
  · rfl
  · split
    · rfl
    · split
      · rfl
      · split
        · show (A.burnt.set f _).at t = _
          rw [at_set hs2, if_neg ht]; rfl
        · show (A.burnt.set f _).at t = _
          rw [at_set hs2, if_neg ht]; rfl
theorem sync_at_ne {A : Dk} (hs : Sorted A.files) {f t : ByteArray} (ht : f ≠ t) : (A.sync f).2.at t = A.at t := by
  unfold Dk.sync
  have hs2 : Sorted A.burnt.files := hs
  split
  · rfl
  · split
    · rfl
    · show (A.burnt.set f _).at t = _
      rw [at_set hs2, if_neg ht]; rfl
theorem cel_of_at {A B : Dk} {t : ByteArray} (h : A.at t = B.at t) (i : Int) : A.cel t i = B.cel t i := by
  unfold Dk.cel
  rw [h]
theorem readO_of_none {A : Dk} {f : ByteArray} {i : Int} (h : A.cel f i = none) : readO A f i = [] := by unfold readO; rw [h]
theorem readO_of_some {A : Dk} {f : ByteArray} {i : Int} {c : Cel} (h : A.cel f i = some c) : readO A f i = c.read := by unfold readO; rw [h]
end Go.Proofs.YtanlgadijndmaaaDoor
/- pair.Mend. -/
namespace Go.Proofs.YtanlgadijndmaaaDoor
open Go.RowKit HP
set_option linter.unusedSimpArgs false
set_option linter.unusedVariables false

set_option maxHeartbeats 4000000 in
set_option maxRecDepth 100000 in
theorem pair_mend (E : Env) (q : HP) (d : Nat) (A : Dk) (name : ByteArray) (i : Int) (w : World) (hname : name.size + 2 ≤ maxLen) (hby : ∀ f ∈ halvesL name, ∀ c, A.cel f i = some c → Bytes c.read)
    (hq : ∀ w, Sat E w q → Quarter w) (hw : Sat E w (HP.disk d A * q)) :
    Calls Tryd.prog 34 #[.pointer (some ⟨d, 0, none⟩), .string name, .int .i64 i] w fun e w' => e = .returned (.tuple #[.bool (mendP A name i).1.1, .int .i64 (mendP A name i).1.2]) ∧ Sat E w' (HP.disk d (mendP A name i).2 * q) := by
  have hfa : (name ++ dotA).size ≤ maxLen := by rw [dotA_size]; exact hname
  have hfb : (name ++ dotB).size ≤ maxLen := by rw [dotB_size]; exact hname
  have HF : Aside (halvesL name = [name ++ dotA, name ++ dotB]) := ⟨rfl⟩
  have HNE := Aside.mk (halves_ne name)
  have HM : Aside (mendP A name i = if (getP A name i).1 < 0 then ((false, 50), A) else mendL i.toNat (getP A name i).1.toNat (getP A name i).2 false A (halvesL name)) := ⟨rfl⟩
  have HQ := Aside.mk (And.intro hq (And.intro hby hw))
  have HG := Aside.mk (And.intro (getP_ok A name i) (getP_byt hby))
  clear hq hby hw
  go_enter Tryd.func34, Tryd.ntmps34
  go_wp2_with fail
  refine (pair_get E q d A name i _ hname HQ.out.2.1 HQ.out.1 HQ.out.2.2).mono ?_
  rintro e w1 ⟨v, rfl, h1⟩
  obtain ⟨Av, cv, rfl, hcv, hcm⟩ := h1.row_slice
  obtain ⟨⟨G0, p⟩, hGp⟩ : ∃ r, r = getP A name i := ⟨_, rfl⟩
  rw [← hGp] at h1 HM HG ⊢
  clear hGp
  dsimp only at h1 HM HG ⊢
  have H1 := Aside.mk h1
  clear h1
  unfold getEnd
  by_cases hneg : G0 < 0
  · rw [if_pos (by exact hneg)]
    rw [if_pos hneg] at HM
    go_wp2
    go_ret2
    rw [HM.out]
    exact ⟨rfl, H1.out.right⟩
  · rw [if_neg (by exact hneg)]
    rw [if_neg hneg] at HM
    obtain ⟨i0, i1⟩ := HG.out.1.place (by show 0 ≤ G0; omega)
    obtain ⟨i, rfl⟩ := Int.eq_ofNat_of_zero_le i0
    obtain ⟨G, rfl⟩ := Int.eq_ofNat_of_zero_le (show 0 ≤ G0 by omega)
    rw [Int.toNat_natCast, Int.toNat_natCast] at HM
    have hG : (G : Int) ≤ 4611686018427387904 := HG.out.1.gen
    have hpl : p.length ≤ 106 := HG.out.1.len
    obtain ⟨n, hn⟩ : ∃ n, n = p.length := ⟨_, rfl⟩
    rw [← hn] at H1 hpl ⊢
    have HPL := Aside.mk (And.intro hn.symm HG.out.2)
    clear hn HG hneg hcv hcm
    go_wp2_with fail
    refine (pair_halves E _ name _ hname H1.out).mono ?_
    rintro e w2 ⟨rfl, h2⟩
    obtain ⟨fa, hfae⟩ : ∃ fa, fa = name ++ dotA := ⟨_, rfl⟩
    obtain ⟨fb, hfbe⟩ : ∃ fb, fb = name ++ dotB := ⟨_, rfl⟩
    rw [← hfae] at hfa HF HNE ⊢
    rw [← hfbe] at hfb HF HNE ⊢
    clear hfae hfbe
    have H2 : Aside (Sat E w2 (HP.disk d A * (HP.row 5 1 (.slice Av n cv) n (b8s p) * q))) := ⟨h2.s2⟩
    clear h2 H1
    have i0' : ∀ w, (Instr.index 144 (.agg #[.string fa, .string fb]) (.int .i64 0)).run Tryd.prog w = .ok (.string fa) w := fun w => by kernel_rfl
    have i1' : ∀ w, (Instr.index 144 (.agg #[.string fa, .string fb]) (.int .i64 1)).run Tryd.prog w = .ok (.string fb) w := fun w => by kernel_rfl
    go_wp2
    go_loopw [11, 33] (fun v11 v33 wr => ∃ (h : Nat) (wrote : Bool) (A' : Dk), h ≤ 2 ∧ v33 = .int .i64 h ∧ v11 = .bool wrote ∧ Aside (mendL i G p wrote A' ((halvesL name).drop h) = mendP A name i) ∧ Aside (∀ f ∈ (halvesL name).drop h, ∀ c, A'.cel f i = some c → Bytes c.read) ∧ Aside (Sat E wr (HP.disk d A' * (HP.row 5 1 (.slice Av n cv) n (b8s p) * q)))) (fun _ x _ => 2 - (intOf x).toNat)
    case atStart => exact ⟨0, false, A, by omega, rfl, rfl, ⟨HM.out.symm⟩, ⟨HQ.out.2.1⟩, H2⟩
    case round =>
      obtain ⟨h, wrote, A', hh, rfl, rfl, HL, HY, HS⟩ := hrel
      by_cases hlt : h < 2
      · obtain ⟨f, hf, hff, hne, hix⟩ : ∃ f : ByteArray, f.size ≤ maxLen ∧ (halvesL name).drop h = f :: (halvesL name).drop (h + 1) ∧ (∀ t ∈ (halvesL name).drop (h + 1), f ≠ t) ∧ ∀ w, (Instr.index 144 (.agg #[.string fa, .string fb]) (.int .i64 (h : Int))).run Tryd.prog w = .ok (.string f) w := by
          rw [HF.out]
          rcases Nat.lt_or_ge h 1 with h0 | h0
          · obtain rfl : h = 0 := by omega
            exact ⟨fa, hfa, rfl, fun t ht => by obtain rfl := List.mem_singleton.1 ht; exact HNE.out, i0'⟩
          · obtain rfl : h = 1 := by omega
            exact ⟨fb, hfb, rfl, fun t ht => (by cases ht), i1'⟩
        rw [hff] at HL HY
        have HNX := Aside.mk hne
        clear hff hne i0' i1'
        have hlt2 : (h : Int) < 2 := by omega
        have hIl : (extI f i G p).length = 128 := extI_length (by rw [HPL.out.1]; exact hpl)
        have hIb : Bytes (extI f i G p) := extI_bytes (by rw [HPL.out.1]; exact hpl) HPL.out.2
        have HX : Aside (mendL i G p wrote A' (f :: (halvesL name).drop (h + 1)) = if readO A' f i = extI f i G p then mendL i G p wrote A' ((halvesL name).drop (h + 1))
          else if (A'.write f i (extI f i G p)).1 = 0 then
            if ((A'.write f i (extI f i G p)).2.sync f).1 = 0 then mendL i G p true ((A'.write f i (extI f i G p)).2.sync f).2 ((halvesL name).drop (h + 1))
            else ((false, ((A'.write f i (extI f i G p)).2.sync f).1), ((A'.write f i (extI f i G p)).2.sync f).2)
          else ((false, (A'.write f i (extI f i G p)).1), (A'.write f i (extI f i G p)).2)) := ⟨rfl⟩
        rw [HL.out] at HX
        go_wp2_with fail
        refine (ext_frame E (HP.disk d A' * (HP.row 5 1 (.slice Av n cv) n (b8s p) * q)) f i G Av p n cv _ hf i1 hG HPL.out.1 hpl HPL.out.2 (fun w h => ⟨HQ.out.1 _ h.right.right, h.right.row_cells⟩) HS.out).mono ?_
        rintro e w3 ⟨gI, rfl, h3⟩
        obtain ⟨I, hIe⟩ : ∃ I, I = extI f i G p := ⟨_, rfl⟩
        rw [← hIe] at hIl hIb h3 HX
        clear hIe
        have HI := Aside.mk (And.intro hIl hIb)
        have H3 := Aside.mk h3.s2
        clear h3 hIl hIb HS HL
        go_wp2_with fail
        refine (disk_read_ok E _ d A' f i _ hf H3.out).mono ?_
        intro e w4 h4
        obtain ⟨Ar, nr, cr, er, hev, hrl, hbr, hcl, h5⟩ : ∃ (Ar : Option Addr) (nr cr : Nat) (er : Int), e = .returned (.tuple #[.slice Ar nr cr, .int .i64 er]) ∧ (readO A' f i).length = nr ∧ Bytes (readO A' f i) ∧ Cells w4 Ar (b8s (readO A' f i)) ∧ Sat E w4 (HP.disk d A' * (HP.pt gI (.cells (b8s I).toArray 183) * (HP.row 5 1 (.slice Av n cv) n (b8s p) * q))) := by
          unfold readEnd at h4
          cases hc : A'.cel f i with
          | none =>
            rw [hc] at h4
            rw [readO_of_none hc]
            exact ⟨none, 0, 0, 30, h4.1, rfl, (fun x hx => by cases hx), Cells.nil _ _, h4.2⟩
          | some cl =>
            rw [hc] at h4
            obtain ⟨vr, h4a, h4⟩ := h4
            obtain ⟨Ar, cr, rfl, -, -⟩ := h4.row_slice
            rw [readO_of_some hc]
            have hl128 := h4.row_cases.1
            rw [b8s_length] at hl128
            exact ⟨Ar, 128, cr, 0, h4a, hl128, HY.out f (List.mem_cons_self ..) cl hc, h4.row_cells, h4.right⟩
        subst hev
        obtain ⟨R, hR⟩ : ∃ R, R = readO A' f i := ⟨_, rfl⟩
        rw [← hR] at hrl hbr hcl HX
        have HR := Aside.mk (And.intro hrl (And.intro hbr hcl))
        have H5 := Aside.mk h5
        clear h4 h5 hR hrl hbr hcl H3
        go_wp2_with fail
        refine (bytesEq_ok Ar (some ⟨gI, 0, none⟩) R I nr 128 cr 128 _ HR.out.1 HI.out.1 HR.out.2.2 (Sat.ptCells (off := 0) H5.out.right (by rw [List.drop_zero, List.take_length])) HR.out.2.1 HI.out.2).mono ?_
        rintro e w5 ⟨rfl, rfl⟩
        clear HR
        by_cases hRI : R = I
        · rw [decide_eq_true hRI]
          rw [if_pos hRI] at HX
          have HZ := Aside.mk (H5.out.s2.right)
          have HY2 : Aside (∀ f ∈ (halvesL name).drop (h + 1), ∀ c, A'.cel f i = some c → Bytes c.read) := ⟨fun t ht => HY.out t (List.mem_cons_of_mem _ ht)⟩
          have HX2 := Aside.mk HX.out.symm
          clear hRI HX HY H5
          go_wp2
          go_roundw
          case rel => exact ⟨h + 1, wrote, A', by omega, by push_cast; rfl, rfl, HX2, HY2, HZ⟩
          case measure => simp [intOf]; omega
        · rw [decide_eq_false hRI]
          rw [if_neg hRI] at HX
          clear hRI
          have hso : Sorted A'.files := H5.out.disk_fine.sorted
          have HSO := Aside.mk hso
          clear hso
          go_wp2_with fail
          refine (disk_write E _ d A' f i (some ⟨gI, 0, none⟩) I 128 128 _ hf HI.out.1 (by unfold maxLen; omega) (fun w h => Sat.ptCells (off := 0) h (by rw [List.drop_zero, List.take_length])) H5.out).mono ?_
          rintro e w6 ⟨rfl, h6⟩
          have H6 := Aside.mk h6.drop2
          clear h6 H5
          by_cases hw0 : (A'.write f (i : Int) I).1 = 0
          · rw [hw0]
            rw [if_pos hw0] at HX
            have HY2 : Aside (∀ t ∈ (halvesL name).drop (h + 1), ∀ c, (A'.write f (i : Int) I).2.cel t i = some c → Bytes c.read) := ⟨fun t ht c hc => HY.out t (List.mem_cons_of_mem _ ht) c (by rw [← cel_of_at (write_at_ne HSO.out (HNX.out t ht) i I)]; exact hc)⟩
            have hso2 : Sorted (A'.write f (i : Int) I).2.files := H6.out.disk_fine.sorted
            have HSO2 := Aside.mk hso2
            clear hso2 hw0 HY HSO
            generalize (A'.write f (i : Int) I).2 = B at *
            go_wp2_with fail
            refine (disk_sync E _ d B f _ hf H6.out).mono ?_
            rintro e w7 ⟨rfl, h7⟩
            have H7 := Aside.mk h7
            clear h7 H6
            by_cases hs0 : (B.sync f).1 = 0
            · rw [hs0]
              rw [if_pos hs0] at HX
              have HY3 : Aside (∀ t ∈ (halvesL name).drop (h + 1), ∀ c, (B.sync f).2.cel t i = some c → Bytes c.read) := ⟨fun t ht c hc => HY2.out t ht c (by rw [← cel_of_at (sync_at_ne HSO2.out (HNX.out t ht)) i]; exact hc)⟩
              have HX2 := Aside.mk HX.out.symm
              clear hs0 HX HY2
              generalize (B.sync f).2 = C at *
              go_wp2
              go_roundw
              case rel => exact ⟨h + 1, true, C, by omega, by push_cast; rfl, rfl, HX2, HY3, H7⟩
              case measure => simp [intOf]; omega
            · rw [if_neg hs0] at HX
              obtain ⟨ec, hec⟩ : ∃ ec, ec = (B.sync f).1 := ⟨_, rfl⟩
              rw [← hec] at hs0 HX ⊢
              clear hec HY2
              go_wp2
              go_ret2
              rw [HX.out]
              exact ⟨rfl, H7.out.drop2⟩
          · rw [if_neg hw0] at HX
            obtain ⟨ec, hec⟩ : ∃ ec, ec = (A'.write f (i : Int) I).1 := ⟨_, rfl⟩
            rw [← hec] at hw0 HX ⊢
            clear hec HY
            go_wp2
            go_ret2
            rw [HX.out]
            exact ⟨rfl, H6.out.drop2⟩
      · obtain rfl : h = 2 := by omega
        rw [HF.out] at HL
        have HX : Aside (mendP A name i = ((wrote, 0), A')) := ⟨by rw [← HL.out]; rfl⟩
        clear HL i0' i1'
        go_wp2
        go_ret2
        rw [HX.out]
        exact ⟨rfl, HS.out.drop2⟩
end Go.Proofs.YtanlgadijndmaaaDoor
/- A text is stored on a new disk, and read: awake of layer 5. -/
namespace Go.Proofs.YtanlgadijndmaaaDoor
open Go.RowKit HP
set_option linter.unusedSimpArgs false
set_option linter.unusedVariables false

theorem piecesI_mem {l : List Int} {p : List Int} (h : p ∈ piecesI l) : ∀ x ∈ p, x ∈ l := fun x hx => by
  have : x ∈ (piecesI l).flatten := List.mem_flatten.2 ⟨p, h, hx⟩
  rwa [piecesI_flat] at this
theorem piecesI_bytes {l : List Int} (hb : Bytes l) : ∀ p ∈ piecesI l, Bytes p := fun p hp x hx => hb x (piecesI_mem hp x hx)
structure StoreEnd (room : Int) (gen : Nat) (l : List Int) (B : Dk) : Prop where
  eq : storeP (Dk.new room) exS gen l = (0, B)
  held : Holds B exS gen (piecesI l)
  sorted : Sorted B.files
  load : loadP B exS gen = some l
  bytes : ∀ f ∈ halvesL exS, ∀ i c, B.cel f i = some c → Bytes c.read
theorem store_end {room : Int} {l : List Int} {gen : Nat} (hg : (gen : Int) ≤ 4611686018427387904) (hr : needI l.length ≤ room) (hl : (piecesI l).length ≤ 2147483647) (hb : Bytes l) : ∃ B, StoreEnd room gen l B := by
  obtain ⟨B, h1, h2, h3⟩ := store_new hg hr hl
  obtain ⟨h4, h5⟩ := store_held hg hr hl
  have h6 := store_load hg hr hl
  rw [h1] at h4 h5 h6
  exact ⟨B, h1, h4, h5, h6, held_bytes h4 (pieces_count (l := l)).2.2.2 (piecesI_bytes hb)⟩
set_option maxHeartbeats 2000000 in
set_option maxRecDepth 100000 in
theorem awake5_ok (E : Env) (q : HP) (w : World) (hq : ∀ w, Sat E w q → Quarter w) (hw : Sat E w q) :
    Calls Tryd.prog 30 #[] w fun e w' => e = .returned (.bool true) ∧ Sat E w' q := by
  have hx3 : exS.size + 2 ≤ maxLen := by show 3 ≤ maxLen; unfold maxLen; omega
  have HX3 := Aside.mk hx3
  have hb2 : Bytes [97, 98] := by intro x hx; simp at hx; omega
  obtain ⟨B, hB⟩ := store_end (room := 10) (l := [97, 98]) (gen := 1) (by omega) (by decide) (by decide) hb2
  have HB := Aside.mk hB
  have HQ := Aside.mk (And.intro hq hw)
  have HB2 := Aside.mk hb2
  clear hx3 hB hq hw hb2
  go_enter Tryd.func30, Tryd.ntmps30
  go_wp2_with fail
  refine (disk_new_ok E q 10 _ ⟨by omega, by omega⟩ HQ.out.2).mono ?_
  rintro e w1 ⟨d, rfl, h1⟩
  have h2 := h1.alloc (.cells #[.int .u8 97, .int .u8 98] 5 (2, 3))
  have H2 : Aside (Sat E (w1.alloc (.cells #[.int .u8 97, .int .u8 98] 5 (2, 3))) (HP.disk d (Dk.new 10) * (HP.pt w1.heap.size (.cells (b8s [97, 98]).toArray 5 (2, 3)) * q))) := ⟨h2.perm (by ac_rfl)⟩
  have HQ2 : Aside (∀ w, Sat E w (HP.pt w1.heap.size (.cells (b8s [97, 98]).toArray 5 (2, 3)) * q) → Quarter w ∧ Cells w (some ⟨w1.heap.size, 0, none⟩) (b8s [97, 98])) := ⟨fun w h => ⟨HQ.out.1 w h.right, h.ptCells rfl⟩⟩
  have cv : (convert 52 52 (.slice (some ⟨w1.heap.size, 0, none⟩) 2 2)).run Tryd.prog (w1.alloc (.cells #[.int .u8 97, .int .u8 98] 5)) = .ok (.slice (some ⟨w1.heap.size, 0, none⟩) 2 2) (w1.alloc (.cells #[.int .u8 97, .int .u8 98] 5 (2, 3))) := Lib.run_convert_bytes_const w1 _ _ #[.int .u8 97, .int .u8 98] 2 2 Tryd.underlying52 Tryd.underlying5
  have HL : Aside ((2 : Nat) ≤ maxLen) := ⟨by unfold maxLen; omega⟩
  clear h1 h2
  go_wp2_with fail
  refine (pair_store E _ d (Dk.new 10) exS 1 (some ⟨w1.heap.size, 0, none⟩) [97, 98] 2 2 _ HX3.out (by omega) rfl (by omega) HL.out (by omega) HB2.out HQ2.out H2.out).mono ?_
  rintro e w2 ⟨rfl, h2⟩
  rw [HB.out.eq] at h2 ⊢
  have H3 : Aside (Sat E w2 (HP.disk d B * q)) := ⟨h2.perm (by ac_rfl : _ = HP.pt w1.heap.size (.cells (b8s [97, 98]).toArray 5 (2, 3)) * (HP.disk d B * q)) |>.right⟩
  clear h2 H2 HQ2
  go_wp2_with fail
  refine (pair_load E q d B exS 1 _ HX3.out HB.out.bytes HQ.out.1 H3.out).mono ?_
  intro e w3 h3
  have hld : loadP B exS 1 = some [97, 98] := HB.out.load
  rw [hld] at h3
  obtain ⟨v, rfl, h3⟩ := h3
  obtain ⟨Av, cv, rfl, -, -⟩ := h3.row_slice
  have e0 : (convert 52 9 (.slice Av 2 cv)).run Tryd.prog w3 = .ok (.string ⟨#[97, 98]⟩) w3 := run_string (P := Tryd.prog) (c := cv) Tryd.underlying52 Tryd.underlying5 Tryd.underlying9 h3.row_cells
  have H4 := Aside.mk h3
  clear h3 H3
  go_wp2
  go_ret
  exact ⟨rfl, H4.out.right.right⟩
end Go.Proofs.YtanlgadijndmaaaDoor
/- Two halves that hold extents, one of them turned in any way: what is read of them, plain. -/
namespace Go.Proofs.YtanlgadijndmaaaDoor
open Go.RowKit HP
set_option linter.unusedSimpArgs false
set_option linter.unusedVariables false

/-- The extents of a half, of these generations and payloads. -/
def imgsF (f : ByteArray) (gp : List (Nat × List Int)) : List Cel := gp.mapIdx fun k x => stl (extI f k x.1 x.2)
theorem imgsF_length (f : ByteArray) (gp : List (Nat × List Int)) : (imgsF f gp).length = gp.length := by unfold imgsF; rw [List.length_mapIdx]
theorem imgsF_get {f : ByteArray} {gp : List (Nat × List Int)} {k : Nat} {x : Nat × List Int} (h : gp[k]? = some x) : (imgsF f gp)[k]? = some (stl (extI f k x.1 x.2)) := by
  unfold imgsF
  rw [List.getElem?_mapIdx, h]; rfl
structure HoldG (A : Dk) (x : ByteArray) (gp : List (Nat × List Int)) : Prop where
  a : A.at (x ++ dotA) = imgsF (x ++ dotA) gp
  b : A.at (x ++ dotB) = imgsF (x ++ dotB) gp
  sorted : Sorted A.files
  fuse : A.fuse = -1
  others : ∀ t, x ++ dotA ≠ t → x ++ dotB ≠ t → A.at t = []
structure GpOk (gp : List (Nat × List Int)) : Prop where
  many : gp.length ≤ 2147483647
  each : ∀ x ∈ gp, x.1 ≤ 4611686018427387904 ∧ x.2.length ≤ 106 ∧ Bytes x.2
theorem GpOk.at_ {gp : List (Nat × List Int)} (h : GpOk gp) {k : Nat} {x : Nat × List Int} (hx : gp[k]? = some x) : k ≤ 2147483647 ∧ x.1 ≤ 4611686018427387904 ∧ x.2.length ≤ 106 ∧ Bytes x.2 := by
  have h1 := (List.getElem?_eq_some_iff.1 hx).1
  have h2 := h.many
  exact ⟨by omega, h.each x (List.mem_of_getElem? hx)⟩
theorem HoldG.at_f {A : Dk} {x : ByteArray} {gp : List (Nat × List Int)} (H : HoldG A x gp) {f : ByteArray} (hf : f ∈ halvesL x) : A.at f = imgsF f gp := by
  rcases List.mem_cons.1 hf with rfl | hf
  · exact H.a
  · obtain rfl := List.mem_singleton.1 hf
    exact H.b
theorem imgsF_mem {f : ByteArray} {gp : List (Nat × List Int)} {c : Cel} (h : c ∈ imgsF f gp) : ∃ k x, gp[k]? = some x ∧ c = stl (extI f k x.1 x.2) := by
  obtain ⟨k, hk⟩ := List.getElem?_of_mem h
  have hlt : k < gp.length := by rw [← imgsF_length f gp]; exact (List.getElem?_eq_some_iff.1 hk).1
  refine ⟨k, gp[k], List.getElem?_eq_getElem hlt, ?_⟩
  rw [imgsF_get (List.getElem?_eq_getElem hlt)] at hk
  cases hk; rfl
theorem imgsF_still {f : ByteArray} {gp : List (Nat × List Int)} : ∀ c ∈ imgsF f gp, Still c := fun c h => by
  obtain ⟨k, x, -, rfl⟩ := imgsF_mem h
  exact ⟨rfl, rfl⟩
theorem imgsF_bytes {f : ByteArray} {gp : List (Nat × List Int)} (hok : GpOk gp) : ∀ c ∈ imgsF f gp, Bytes c.read := fun c h => by
  obtain ⟨k, x, hx, rfl⟩ := imgsF_mem h
  have h1 := hok.at_ hx
  exact extI_bytes h1.2.2.1 h1.2.2.2
theorem cel_at_nat (A : Dk) (f : ByteArray) (k : Nat) : A.cel f (k : Int) = (A.at f)[k]? := by
  unfold Dk.cel
  rw [if_pos (by omega), Int.toNat_natCast]
theorem cel_mem {A : Dk} {f : ByteArray} {i : Int} {c : Cel} (h : A.cel f i = some c) : c ∈ A.at f := by
  unfold Dk.cel at h
  split at h
  · exact List.mem_of_getElem? h
  · cases h
theorem get_at {B : Dk} {x : ByteArray} {k g : Nat} {p : List Int} (hk : k ≤ 2147483647) (hs : g ≤ 4611686018427387904) (hp : p.length ≤ 106) {ca cb : Cel} (ha : B.cel (x ++ dotA) (k : Int) = some ca) (hb : B.cel (x ++ dotB) (k : Int) = some cb)
    (h : (openI ca.read (x ++ dotA) k = none ∨ ca.read = extI (x ++ dotA) k g p) ∧ cb.read = extI (x ++ dotB) k g p ∨ ca.read = extI (x ++ dotA) k g p ∧ (openI cb.read (x ++ dotB) k = none ∨ cb.read = extI (x ++ dotB) k g p)) : getP B x (k : Int) = ((g : Int), p) := by
  have oa := openI_extI (f := x ++ dotA) (i := k) hk hs hp
  have ob := openI_extI (f := x ++ dotB) (i := k) hk hs hp
  have ga : ∀ st, openI ca.read (x ++ dotA) k = none → getF B k st (x ++ dotA) = st := fun st h => by simp only [getF, ha, h]
  have ga2 : ca.read = extI (x ++ dotA) k g p → getF B k (-1, []) (x ++ dotA) = ((g : Int), p) := fun h => by
    simp only [getF, ha, h, oa]
    rw [if_neg (by show ¬ (g : Int) ≤ -1; omega)]
  have gb : ∀ st, openI cb.read (x ++ dotB) k = none → getF B k st (x ++ dotB) = st := fun st h => by simp only [getF, hb, h]
  have gb2 : cb.read = extI (x ++ dotB) k g p → getF B k (-1, []) (x ++ dotB) = ((g : Int), p) := fun h => by
    simp only [getF, hb, h, ob]
    rw [if_neg (by show ¬ (g : Int) ≤ -1; omega)]
  have gb3 : cb.read = extI (x ++ dotB) k g p → getF B k ((g : Int), p) (x ++ dotB) = ((g : Int), p) := fun h => by
    simp only [getF, hb, h, ob]
    rw [if_pos (Int.le_refl _)]
  unfold getP halvesL
  simp only [List.foldl_cons, List.foldl_nil]
  rcases h with ⟨h1 | h1, h2⟩ | ⟨h1, h2 | h2⟩
  · rw [ga _ h1, gb2 h2]
  · rw [ga2 h1, gb3 h2]
  · rw [ga2 h1, gb _ h2]
  · rw [ga2 h1, gb3 h2]
theorem rot_nil {f : ByteArray} {A : Dk} (h0 : A.at f = []) (i a m : Int) : (A.rot f i a m).2 = A := by
  have hc : A.cel f i = none := by
    unfold Dk.cel
    rw [h0]
    split <;> rfl
  unfold Dk.rot
  rw [hc]
theorem rotS_nil {f : ByteArray} {A B : Dk} (h : RotS f A B) (h0 : A.at f = []) : B = A := by
  induction h with
  | refl => rfl
  | step i a m _ _ _ ih =>
    subst ih
    exact rot_nil h0 i a m
theorem told_at {A B : Dk} {f : ByteArray} {l : List Cel} {i : Nat} (hl : lk A.files f = some l) (hi : i < l.length) (h : toldB A B = true) : openI (readO A f i) f i = none ∨ readO A f i = readO B f i := by
  unfold toldB at h
  have h1 := List.all_eq_true.1 h _ (lk_mem hl)
  unfold toldF at h1
  have h2 := List.all_eq_true.1 h1 i (List.mem_range.2 hi)
  unfold toldAt at h2
  simpa using h2
theorem rbyt_of_at {A : Dk} (h : ∀ f, ∀ c ∈ A.at f, Bytes c.read) : A.RByt := fun f i c hc => h f c (cel_mem hc)
/-- What became of the half that was turned. -/
structure Turned (A B : Dk) (x f : ByteArray) (gp : List (Nat × List Int)) (l' : List Cel) : Prop where
  eq : B = A.set f l'
  len : l'.length = gp.length
  turn : ∀ (k : Nat) (c : Cel) (y : Nat × List Int), l'[k]? = some c → gp[k]? = some y → TurnC (stl (extI f k y.1 y.2)) c
  rb : B.RByt
  told : toldB B A = true → ∀ (k : Nat) (y : Nat × List Int), gp[k]? = some y → getP B x (k : Int) = ((y.1 : Int), y.2)
  open_ : toldB B A = true → ∀ (k : Nat) (c : Cel) (y : Nat × List Int), l'[k]? = some c → gp[k]? = some y → openI c.read f k = none ∨ c.read = extI f k y.1 y.2
theorem HoldG.rbyt {A : Dk} {x : ByteArray} {gp : List (Nat × List Int)} (H : HoldG A x gp) (hok : GpOk gp) : A.RByt := rbyt_of_at fun f c hc => by
  by_cases h1 : x ++ dotA = f
  · rw [← h1, H.a] at hc; exact imgsF_bytes hok c hc
  · by_cases h2 : x ++ dotB = f
    · rw [← h2, H.b] at hc; exact imgsF_bytes hok c hc
    · rw [H.others f h1 h2] at hc; cases hc
theorem turned_of {A B : Dk} {x f : ByteArray} {gp : List (Nat × List Int)} (H : HoldG A x gp) (hok : GpOk gp) (h0 : 0 < gp.length) (hf : f ∈ halvesL x) (h : RotS f A B) : ∃ l', Turned A B x f gp l' := by
  have haf := H.at_f hf
  have hl : lk A.files f = some (A.at f) := at_some (by rw [haf, imgsF_length]; exact h0)
  obtain ⟨l', hB, hlen, hT⟩ := rotS_at H.sorted hl (by rw [haf]; exact imgsF_still) h
  rw [haf, imgsF_length] at hlen
  have hTC : ∀ (k : Nat) (c : Cel) (y : Nat × List Int), l'[k]? = some c → gp[k]? = some y → TurnC (stl (extI f k y.1 y.2)) c := fun k c y hc hy => hT k _ c (by rw [haf]; exact imgsF_get hy) hc
  have hop : toldB B A = true → ∀ (k : Nat) (c : Cel) (y : Nat × List Int), l'[k]? = some c → gp[k]? = some y → openI c.read f k = none ∨ c.read = extI f k y.1 y.2 := by
    intro ht k c y hc hy
    have hkl : k < l'.length := (List.getElem?_eq_some_iff.1 hc).1
    have h1 := told_at (f := f) (l := l') (i := k) (by rw [hB, lk_set H.sorted, if_pos rfl]) hkl ht
    have e1 : B.cel f (k : Int) = some c := by rw [hB, cel_at_nat, at_set H.sorted, if_pos rfl]; exact hc
    have e2 : A.cel f (k : Int) = some (stl (extI f k y.1 y.2)) := by rw [cel_at_nat, haf]; exact imgsF_get hy
    rw [readO_of_some e1, readO_of_some e2] at h1
    exact h1
  have hrb : ∀ t, ∀ c ∈ B.at t, Bytes c.read := by
    intro t c hc
    rw [hB, at_set H.sorted] at hc
    split at hc
    · obtain ⟨k, hk⟩ := List.getElem?_of_mem hc
      have hkl : k < gp.length := by rw [← hlen]; exact (List.getElem?_eq_some_iff.1 hk).1
      have hy := List.getElem?_eq_getElem hkl
      have h1 := hok.at_ hy
      exact (hTC k c _ hk hy).byt (extI_bytes h1.2.2.1 h1.2.2.2)
    · by_cases h1 : x ++ dotA = t
      · rw [← h1, H.a] at hc; exact imgsF_bytes hok c hc
      · by_cases h2 : x ++ dotB = t
        · rw [← h2, H.b] at hc; exact imgsF_bytes hok c hc
        · rw [H.others t h1 h2] at hc; cases hc
  refine ⟨l', hB, hlen, hTC, rbyt_of_at hrb, ?_, hop⟩
  intro ht k y hy
  have h1 := hok.at_ hy
  have hkl : k < l'.length := by rw [hlen]; exact (List.getElem?_eq_some_iff.1 hy).1
  have hc := List.getElem?_eq_getElem hkl
  have ho := hop ht k _ y hc hy
  have e1 : B.cel f (k : Int) = some l'[k] := by rw [hB, cel_at_nat, at_set H.sorted, if_pos rfl]; exact hc
  have e2 : ∀ t, t ∈ halvesL x → f ≠ t → B.cel t (k : Int) = some (stl (extI t k y.1 y.2)) := fun t htm hne => by rw [hB, cel_at_nat, at_set H.sorted, if_neg hne, H.at_f htm]; exact imgsF_get hy
  rcases List.mem_cons.1 hf with rfl | hf
  · exact get_at h1.1 h1.2.1 h1.2.2.1 e1 (e2 _ (List.mem_cons_of_mem _ (List.mem_cons_self ..)) (halves_ne x)) (.inl ⟨ho, rfl⟩)
  · obtain rfl := List.mem_singleton.1 hf
    exact get_at h1.1 h1.2.1 h1.2.2.1 (e2 _ (List.mem_cons_self ..) (Ne.symm (halves_ne x))) e1 (.inr ⟨rfl, ho⟩)
end Go.Proofs.YtanlgadijndmaaaDoor
/- A half that was turned, mended extent by extent, is as it was: plain. -/
namespace Go.Proofs.YtanlgadijndmaaaDoor
open Go.RowKit HP
set_option linter.unusedSimpArgs false
set_option linter.unusedVariables false

/-- The half when k of its extents are mended. -/
def mixL (f : ByteArray) (gp : List (Nat × List Int)) (l' : List Cel) (k : Nat) : List Cel := (imgsF f gp).take k ++ l'.drop k
section
variable {A B : Dk} {x f : ByteArray} {gp : List (Nat × List Int)} {l' : List Cel}
theorem mixL_zero : mixL f gp l' 0 = l' := by unfold mixL; simp
theorem mixL_all (hl : l'.length = gp.length) : mixL f gp l' gp.length = imgsF f gp := by
  unfold mixL
  rw [List.take_of_length_le (by rw [imgsF_length]; exact Nat.le_refl _), List.drop_of_length_le (by omega), List.append_nil]
theorem mixL_length (hl : l'.length = gp.length) {k : Nat} (hk : k ≤ gp.length) : (mixL f gp l' k).length = gp.length := by
  unfold mixL
  rw [List.length_append, List.length_take, List.length_drop, imgsF_length]
  omega
theorem mixL_lt {k j : Nat} (hk : k ≤ gp.length) (hj : j < k) : (mixL f gp l' k)[j]? = (imgsF f gp)[j]? := by
  unfold mixL
  rw [List.getElem?_append_left (by rw [List.length_take, imgsF_length]; omega), List.getElem?_take_of_lt hj]
theorem mixL_ge {k j : Nat} (hk : k ≤ gp.length) (hj : k ≤ j) : (mixL f gp l' k)[j]? = l'[j]? := by
  unfold mixL
  rw [List.getElem?_append_right (by rw [List.length_take, imgsF_length]; omega), List.getElem?_drop, List.length_take, imgsF_length]
  congr 1
  omega
theorem mixL_succ (hl : l'.length = gp.length) {k : Nat} {y : Nat × List Int} (hy : gp[k]? = some y) : mixL f gp l' (k + 1) = (mixL f gp l' k).set k (stl (extI f k y.1 y.2)) := by
  have hk : k < gp.length := (List.getElem?_eq_some_iff.1 hy).1
  apply List.ext_getElem?
  intro j
  rw [List.getElem?_set, mixL_length hl (by omega)]
  by_cases hj : k = j
  · subst hj
    rw [if_pos rfl, if_pos hk, mixL_lt (by omega) (by omega), imgsF_get hy]
  · rw [if_neg hj]
    rcases Nat.lt_or_ge j k with h | h
    · rw [mixL_lt (by omega) (by omega), mixL_lt (by omega) h]
    · rw [mixL_ge (by omega) (by omega), mixL_ge (by omega) h]
theorem turnC_stl {I : List Int} {c : Cel} (h : TurnC (stl I) c) (hr : c.read = I) : c = stl I := by
  obtain ⟨r, d, s, w, wt⟩ := c
  have h1 := h.synced
  have h2 := h.written
  have h3 := h.waits
  have h4 := h.same
  simp only [stl] at h1 h2 h3 h4 hr ⊢
  subst h1 h2 h3 hr
  rw [h4]
theorem write_lt {A : Dk} {f : ByteArray} {I : List Int} {k : Nat} (hn : namedB f = true) (hl : I.length = 128) (he : A.fuse = -1) (hk : k < (A.at f).length) : A.write f (k : Int) I = (0, A.set f ((A.at f).modify k fun c => c.wrote I)) := by
  unfold Dk.write
  rw [if_neg (by rw [hn, hl]; simp; omega), if_neg (by rw [goes_ever he]; simp), if_neg (by omega), if_neg (by omega), burnt_ever he, Int.toNat_natCast]
theorem sync_ever {A : Dk} {f : ByteArray} (he : A.fuse = -1) (h0 : 0 < (A.at f).length) : A.sync f = (0, A.set f ((A.at f).map Cel.syncd)) := by
  rw [sync_some (at_some h0) (goes_ever he), burnt_ever he]
theorem mend_other (H : HoldG A x gp) {t : ByteArray} (htm : t ∈ halvesL x) (hne : f ≠ t) {k : Nat} {y : Nat × List Int} (hy : gp[k]? = some y) (L : List Cel) : readO (A.set f L) t (k : Int) = extI t k y.1 y.2 := by
  rw [readO_of_some (c := stl (extI t k y.1 y.2)) (by rw [cel_at_nat, at_set H.sorted, if_neg hne, H.at_f htm]; exact imgsF_get hy)]
  rfl
theorem mend_half (H : HoldG A x gp) (hok : GpOk gp) (hT : Turned A B x f gp l') (hn : namedB f = true) {k : Nat} {y : Nat × List Int} (hy : gp[k]? = some y) (wr : Bool) (r : List ByteArray) :
    ∃ wr', mendL k y.1 y.2 wr (A.set f (mixL f gp l' k)) (f :: r) = mendL k y.1 y.2 wr' (A.set f (mixL f gp l' (k + 1))) r := by
  have h1 := hok.at_ hy
  have hkg : k < gp.length := (List.getElem?_eq_some_iff.1 hy).1
  have hlen := mixL_length (f := f) hT.len (show k ≤ gp.length by omega)
  have hkl : k < l'.length := by rw [hT.len]; exact hkg
  have hc := List.getElem?_eq_getElem hkl
  have tc := hT.turn k _ y hc hy
  obtain ⟨c, hce⟩ : ∃ c, c = l'[k] := ⟨_, rfl⟩
  rw [← hce] at hc tc
  clear hce
  have hat : (A.set f (mixL f gp l' k)).at f = mixL f gp l' k := by rw [at_set H.sorted, if_pos rfl]
  have hcel : (A.set f (mixL f gp l' k)).cel f (k : Int) = some c := by rw [cel_at_nat, hat, mixL_ge (by omega) (Nat.le_refl _)]; exact hc
  have hfu : (A.set f (mixL f gp l' k)).fuse = -1 := H.fuse
  have hso : Sorted (A.set f (mixL f gp l' k)).files := sorted_put f _ H.sorted
  rw [mendL_cons, readO_of_some hcel]
  by_cases hr : c.read = extI f k y.1 y.2
  · rw [if_pos hr]
    have e : mixL f gp l' (k + 1) = mixL f gp l' k := by
      rw [mixL_succ hT.len hy, ← turnC_stl tc hr]
      apply List.ext_getElem?
      intro j
      rw [List.getElem?_set]
      by_cases hj : k = j
      · subst hj
        rw [if_pos rfl, hlen, if_pos hkg, mixL_ge (by omega) (Nat.le_refl _), hc]
      · rw [if_neg hj]
    rw [e]
    exact ⟨wr, rfl⟩
  · rw [if_neg hr]
    have hw := write_lt (A := A.set f (mixL f gp l' k)) (f := f) (I := extI f k y.1 y.2) (k := k) hn (extI_length h1.2.2.1) hfu (by rw [hat, hlen]; exact hkg)
    rw [hat] at hw
    rw [hw, if_pos rfl]
    have hs := sync_ever (A := (A.set f (mixL f gp l' k)).set f ((mixL f gp l' k).modify k fun c => c.wrote (extI f k y.1 y.2))) (f := f) hfu (by rw [at_set hso, if_pos rfl, List.length_modify, hlen]; omega)
    rw [at_set hso, if_pos rfl] at hs
    have e : ((A.set f (mixL f gp l' k)).set f ((mixL f gp l' k).modify k fun c => c.wrote (extI f k y.1 y.2))).set f (((mixL f gp l' k).modify k fun c => c.wrote (extI f k y.1 y.2)).map Cel.syncd) = A.set f (mixL f gp l' (k + 1)) := by
      rw [Dk.set_set hso, Dk.set_set H.sorted, mixL_succ hT.len hy]
      congr 1
      apply List.ext_getElem?
      intro j
      rw [List.getElem?_map, List.getElem?_modify, List.getElem?_set, hlen]
      by_cases hj : k = j
      · subst hj
        rw [if_pos rfl, if_pos hkg, mixL_ge (by omega) (Nat.le_refl _), hc]
        show Option.map Cel.syncd (some (if k = k then c.wrote (extI f k y.1 y.2) else c)) = _
        rw [if_pos rfl]
        rfl
      · rw [if_neg hj]
        rcases Nat.lt_or_ge j k with h | h
        · rw [mixL_lt (by omega) h]
          cases hi : (imgsF f gp)[j]? with
          | none => rfl
          | some z =>
            obtain ⟨k2, y2, -, rfl⟩ := imgsF_mem (List.mem_of_getElem? hi)
            show Option.map Cel.syncd (some (if k = j then (stl (extI f k2 y2.1 y2.2)).wrote (extI f k y.1 y.2) else stl (extI f k2 y2.1 y2.2))) = _
            rw [if_neg hj]
            rfl
        · rw [mixL_ge (by omega) h]
          cases hi : l'[j]? with
          | none => rfl
          | some z =>
            have hjg : j < gp.length := by rw [← hT.len]; exact (List.getElem?_eq_some_iff.1 hi).1
            have tz := hT.turn j z _ hi (List.getElem?_eq_getElem hjg)
            show Option.map Cel.syncd (some (if k = j then z.wrote (extI f k y.1 y.2) else z)) = _
            rw [if_neg hj, Option.map_some]
            unfold Cel.syncd
            rw [tz.waits]
            rfl
    rw [hs, if_pos rfl, e]
    exact ⟨true, rfl⟩
/-- Mending an extent. -/
theorem mend_step (H : HoldG A x gp) (hok : GpOk gp) (hf : f ∈ halvesL x) (hT : Turned A B x f gp l') (ht : toldB B A = true) (hn : namedB f = true) {k : Nat} (hk : k < gp.length) : ∃ wr, mendP (A.set f (mixL f gp l' k)) x (k : Int) = ((wr, 0), A.set f (mixL f gp l' (k + 1))) := by
  have hy := List.getElem?_eq_getElem hk
  obtain ⟨y, hye⟩ : ∃ y, y = gp[k] := ⟨_, rfl⟩
  rw [← hye] at hy
  clear hye
  have h1 := hok.at_ hy
  have hkl : k < l'.length := by rw [hT.len]; exact hk
  have hc := List.getElem?_eq_getElem hkl
  have ho := hT.open_ ht k _ y hc hy
  have e1 : (A.set f (mixL f gp l' k)).cel f (k : Int) = some l'[k] := by rw [cel_at_nat, at_set H.sorted, if_pos rfl, mixL_ge (by omega) (Nat.le_refl _)]; exact hc
  have e2 : ∀ t, t ∈ halvesL x → f ≠ t → (A.set f (mixL f gp l' k)).cel t (k : Int) = some (stl (extI t k y.1 y.2)) := fun t htm hne => by rw [cel_at_nat, at_set H.sorted, if_neg hne, H.at_f htm]; exact imgsF_get hy
  have ha : x ++ dotA ∈ halvesL x := List.mem_cons_self ..
  have hb : x ++ dotB ∈ halvesL x := List.mem_cons_of_mem _ (List.mem_cons_self ..)
  have hg : getP (A.set f (mixL f gp l' k)) x (k : Int) = ((y.1 : Int), y.2) := by
    rcases List.mem_cons.1 hf with rfl | hf2
    · exact get_at h1.1 h1.2.1 h1.2.2.1 e1 (e2 _ hb (halves_ne x)) (.inl ⟨ho, rfl⟩)
    · obtain rfl := List.mem_singleton.1 hf2
      exact get_at h1.1 h1.2.1 h1.2.2.1 (e2 _ ha (Ne.symm (halves_ne x))) e1 (.inr ⟨rfl, ho⟩)
  unfold mendP
  rw [hg, if_neg (by show ¬ (y.1 : Int) < 0; omega), Int.toNat_natCast, Int.toNat_natCast]
  unfold halvesL
  rcases List.mem_cons.1 hf with rfl | hf2
  · obtain ⟨wr, hw⟩ := mend_half H hok hT hn hy false [x ++ dotB]
    rw [hw]
    rw [mendL_cons, if_pos (mend_other H hb (halves_ne x) hy _), mendL_nil]
    exact ⟨wr, rfl⟩
  · obtain rfl := List.mem_singleton.1 hf2
    rw [mendL_cons, if_pos (mend_other H ha (Ne.symm (halves_ne x)) hy _)]
    obtain ⟨wr, hw⟩ := mend_half H hok hT hn hy false []
    rw [hw, mendL_nil]
    exact ⟨wr, rfl⟩
end
theorem mix_bytes {A B : Dk} {x f : ByteArray} {gp : List (Nat × List Int)} {l' : List Cel} (H : HoldG A x gp) (hok : GpOk gp) (hT : Turned A B x f gp l') {k : Nat} (hk : k ≤ gp.length) : ∀ h ∈ halvesL x, ∀ i c, (A.set f (mixL f gp l' k)).cel h i = some c → Bytes c.read := by
  intro h hh i c hc
  have hm := cel_mem hc
  rw [at_set H.sorted] at hm
  split at hm
  · unfold mixL at hm
    rcases List.mem_append.1 hm with hm | hm
    · exact imgsF_bytes hok c (List.mem_of_mem_take hm)
    · obtain ⟨j, hj⟩ := List.getElem?_of_mem (List.mem_of_mem_drop hm)
      have hjg : j < gp.length := by rw [← hT.len]; exact (List.getElem?_eq_some_iff.1 hj).1
      have hy := List.getElem?_eq_getElem hjg
      have h1 := hok.at_ hy
      exact (hT.turn j c _ hj hy).byt (extI_bytes h1.2.2.1 h1.2.2.2)
  · rw [H.at_f hh] at hm
    exact imgsF_bytes hok c hm
/-- A half set to what it was. -/
theorem set_same {A : Dk} {x f : ByteArray} {gp : List (Nat × List Int)} (H : HoldG A x gp) (hf : f ∈ halvesL x) (h0 : 0 < gp.length) : A.set f (imgsF f gp) = A := by
  have haf := H.at_f hf
  have hl : lk A.files f = some (imgsF f gp) := by rw [← haf]; exact at_some (by rw [haf, imgsF_length]; exact h0)
  have e : putF A.files f (imgsF f gp) = A.files := by
    refine sorted_ext (sorted_put f _ H.sorted) H.sorted fun t => ?_
    rw [lk_put _ _ _ H.sorted]
    by_cases e : f = t
    · rw [if_pos e, ← e, hl]
    · rw [if_neg e]
  unfold Dk.set
  rw [e]
end Go.Proofs.YtanlgadijndmaaaDoor
