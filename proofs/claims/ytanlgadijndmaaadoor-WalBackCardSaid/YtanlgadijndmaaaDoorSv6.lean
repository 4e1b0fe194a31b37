/- Texts of one claim, one behind the other: PairW, PairP, PairG, AnchS, ExtP, AnchP, DiskRo, Half, PairD, ChunkA, ChunkB. -/
import Derived.Test.YtanlgadijndmaaaDoorSv5
import Derived.Shelf.Abstract
import Derived.Shelf.RegionOpen
import Derived.OwnWalkIn
import Derived.TacticsInMore
import Derived.LoopNIn
import Derived.LoopIn
import Derived.Outline
import Derived.IntWalk
/- pair.write. -/
namespace Go.Proofs.YtanlgadijndmaaaDoor
open Go.RowKit HP
set_option linter.unusedSimpArgs false
set_option linter.unusedVariables false

/-- Payloads written to a file, one behind the other, and synced. -/
def wrF (A : Dk) (f : ByteArray) (gen : Nat) : Nat → List (List Int) → Int × Dk
  | _, [] => A.sync f
  | i, p :: r =>
    if ¬ FrameOk i gen p.length then (1, A)
    else if (A.write f i (extI f i gen p)).1 = 0 then wrF (A.write f i (extI f i gen p)).2 f gen (i + 1) r
    else A.write f i (extI f i gen p)
def wrL (A : Dk) (i gen : Nat) (ps : List (List Int)) : List ByteArray → Int × Dk
  | [] => (0, A)
  | f :: r => if (wrF A f gen i ps).1 = 0 then wrL (wrF A f gen i ps).2 i gen ps r else wrF A f gen i ps
def halvesL (name : ByteArray) : List ByteArray := [name ++ dotA, name ++ dotB]
def wrP (A : Dk) (name : ByteArray) (i gen : Nat) (ps : List (List Int)) : Int × Dk := wrL A i gen ps (halvesL name)
def Sl.val8 (s : Sl Int) : Value := .slice s.A s.l.length s.cap
structure PayOk (s : Sl Int) : Prop where
  len : s.l.length ≤ s.cap
  bytes : Bytes s.l
theorem dotA_size (name : ByteArray) : (name ++ dotA).size = name.size + 2 := by rw [ByteArray.size_append]; rfl
theorem dotB_size (name : ByteArray) : (name ++ dotB).size = name.size + 2 := by rw [ByteArray.size_append]; rfl
set_option maxHeartbeats 2000000 in
set_option maxRecDepth 100000 in
theorem pair_write (E : Env) (q : HP) (d : Nat) (A : Dk) (name : ByteArray) (at_ gen : Nat) (Ap : Option Addr) (ss : List (Sl Int)) (n c : Nat) (w : World) (hname : name.size + 2 ≤ maxLen) (hat : (at_ : Int) ≤ 2147483647) (hgen : (gen : Int) ≤ 4611686018427387904)
    (hn : ss.length = n) (hnm : n ≤ maxLen) (hss : ∀ s ∈ ss, PayOk s) (hq : ∀ w, Sat E w q → Quarter w ∧ Cells w Ap (ss.map Sl.val8) ∧ ∀ s ∈ ss, Cells w s.A (b8s s.l)) (hw : Sat E w (HP.disk d A * q)) :
    Calls Tryd.prog 87 #[.pointer (some ⟨d, 0, none⟩), .string name, .int .i64 at_, .int .i64 gen, .slice Ap n c] w fun e w' => e = .returned (.int .i64 (wrP A name at_ gen (ss.map (·.l))).1) ∧ Sat E w' (HP.disk d (wrP A name at_ gen (ss.map (·.l))).2 * q) := by
  obtain ⟨ps, hps⟩ : ∃ ps, ps = ss.map (·.l) := ⟨_, rfl⟩
  rw [← hps]
  have hfa : (name ++ dotA).size ≤ maxLen := by rw [dotA_size]; exact hname
  have hfb : (name ++ dotB).size ≤ maxLen := by rw [dotB_size]; exact hname
  have HF : Aside (halvesL name = [name ++ dotA, name ++ dotB]) := ⟨rfl⟩
  have HR : Aside (wrP A name at_ gen ps = wrL A at_ gen ps (halvesL name)) := ⟨rfl⟩
  have HQ := Aside.mk (And.intro hq (And.intro hss (And.intro hn (And.intro hps hw))))
  clear hq hss hn hps hw
  have hnm' : (n : Int) ≤ 9223372036854775807 := by unfold maxLen at hnm; omega
  go_enter Tryd.func87, Tryd.ntmps87
  go_wp2_with fail
  refine (pair_halves E _ name _ hname HQ.out.2.2.2.2).mono ?_
  rintro e w1 ⟨rfl, h1⟩
  obtain ⟨fa, hfae⟩ : ∃ fa, fa = name ++ dotA := ⟨_, rfl⟩
  obtain ⟨fb, hfbe⟩ : ∃ fb, fb = name ++ dotB := ⟨_, rfl⟩
  rw [← hfae] at hfa HF ⊢
  rw [← hfbe] at hfb HF ⊢
  clear hfae hfbe
  have H1 := Aside.mk h1
  clear h1
  have i0 : ∀ w, (Instr.index 144 (.agg #[.string fa, .string fb]) (.int .i64 0)).run Tryd.prog w = .ok (.string fa) w := fun w => by kernel_rfl
  have i1 : ∀ w, (Instr.index 144 (.agg #[.string fa, .string fb]) (.int .i64 1)).run Tryd.prog w = .ok (.string fb) w := fun w => by kernel_rfl
  go_wp2
  go_loopw [20] (fun v20 wr => ∃ (h : Nat) (A' : Dk), h ≤ 2 ∧ v20 = .int .i64 h ∧ Aside (wrL A' at_ gen ps ((halvesL name).drop h) = wrP A name at_ gen ps) ∧ Aside (Sat E wr (HP.disk d A' * q))) (fun i _ => 2 - (intOf i).toNat)
  case atStart => exact ⟨0, A, by omega, rfl, ⟨by rw [HR.out]; rfl⟩, H1⟩
  case round =>
    obtain ⟨h, A', hh, rfl, HA, HS⟩ := hrel
    by_cases hlt : h < 2
    · obtain ⟨f, hf, hff, hix⟩ : ∃ f : ByteArray, f.size ≤ maxLen ∧ (halvesL name).drop h = f :: (halvesL name).drop (h + 1) ∧ ∀ w, (Instr.index 144 (.agg #[.string fa, .string fb]) (.int .i64 (h : Int))).run Tryd.prog w = .ok (.string f) w := by
        rw [HF.out]
        rcases Nat.lt_or_ge h 1 with h0 | h0
        · obtain rfl : h = 0 := by omega
          exact ⟨fa, hfa, rfl, i0⟩
        · obtain rfl : h = 1 := by omega
          exact ⟨fb, hfb, rfl, i1⟩
      rw [hff] at HA
      clear hff
      have hlt2 : (h : Int) < 2 := by omega
      have HW : Aside (wrL A' at_ gen ps (f :: (halvesL name).drop (h + 1)) = if (wrF A' f gen at_ ps).1 = 0 then wrL (wrF A' f gen at_ ps).2 at_ gen ps ((halvesL name).drop (h + 1)) else wrF A' f gen at_ ps) := ⟨rfl⟩
      go_wp2
      go_loopw [25] (fun v25 w2 => ∃ (k : Nat) (B : Dk), k ≤ n ∧ (at_ : Int) + k ≤ 2147483648 ∧ v25 = .int .i64 k ∧ Aside (wrF B f gen (at_ + k) (ps.drop k) = wrF A' f gen at_ ps) ∧ Aside (Sat E w2 (HP.disk d B * q))) (fun i _ => n - (intOf i).toNat)
      case atStart => exact ⟨0, A', by omega, by omega, rfl, ⟨by rw [Nat.add_zero]; rfl⟩, HS⟩
      case round =>
        obtain ⟨k, B, hk, hak, rfl, HB, HT⟩ := hrel
        by_cases hkn : k < n
        · have hks : k < ss.length := by rw [HQ.out.2.2.1]; exact hkn
          obtain ⟨ap, rfl, hcx⟩ := (HQ.out.1 _ HT.out.right).2.1.at_ k (by rw [List.length_map]; exact hks)
          rw [List.getElem_map] at hcx
          obtain ⟨s, hs⟩ : ∃ s, s = ss[k] := ⟨_, rfl⟩
          have hsm : s ∈ ss := by rw [hs]; exact List.getElem_mem hks
          have hpk : ps.drop k = s.l :: ps.drop (k + 1) := by
            rw [HQ.out.2.2.2.1, List.drop_eq_getElem_cons (by rw [List.length_map]; exact hks), List.getElem_map, ← hs]
          rw [← hs] at hcx
          rw [hpk] at HB
          clear hs hpk hks
          have hso := HQ.out.2.1 s hsm
          have hkn2 : (k : Int) < n := by omega
          unfold Sl.val8 at hcx
          have HN : Aside (wrF B f gen (at_ + k) (s.l :: ps.drop (k + 1)) = if ¬ FrameOk ((at_ + k : Nat) : Int) gen s.l.length then (1, B)
            else if (B.write f ((at_ + k : Nat) : Int) (extI f (at_ + k) gen s.l)).1 = 0 then wrF (B.write f ((at_ + k : Nat) : Int) (extI f (at_ + k) gen s.l)).2 f gen (at_ + k + 1) (ps.drop (k + 1))
            else B.write f ((at_ + k : Nat) : Int) (extI f (at_ + k) gen s.l)) := ⟨rfl⟩
          rw [HB.out] at HN
          obtain ⟨j, hj⟩ : ∃ j : Nat, (at_ : Int) + k = j := ⟨at_ + k, by omega⟩
          have hj2 : at_ + k = j := by omega
          rw [hj2] at HN
          by_cases hfo : FrameOk (j : Int) gen s.l.length
          · rw [if_neg (by simpa using hfo)] at HN
            obtain ⟨_, hf2, _, _, hf5⟩ := hfo
            go_wp2_with fail
            refine (ext_frame E (HP.disk d B * q) f j gen s.A s.l s.l.length s.cap _ hf hf2 hgen rfl hf5 hso.bytes (fun w h => ⟨(HQ.out.1 _ h.right).1, (HQ.out.1 _ h.right).2.2 s hsm⟩) HT.out).mono ?_
            rintro e w3 ⟨gI, rfl, h3⟩
            have hIl : (extI f j gen s.l).length = 128 := extI_length hf5
            obtain ⟨I, hIe⟩ : ∃ I, I = extI f j gen s.l := ⟨_, rfl⟩
            rw [← hIe] at hIl h3 HN
            clear hIe
            have H3 := Aside.mk (And.intro h3 hIl)
            clear h3 hIl hcx hsm hso
            go_wp2_with fail
            refine (disk_write E (HP.pt gI (.cells (b8s I).toArray 183) * q) d B f j (some ⟨gI, 0, none⟩) I 128 128 _ hf H3.out.2 (by unfold maxLen; omega) (fun w h => Sat.ptCells (off := 0) h (by rw [List.drop_zero, List.take_length])) H3.out.1.s2).mono ?_
            rintro e w4 ⟨rfl, h4⟩
            have H4 := Aside.mk h4.drop2
            clear h4 H3
            by_cases h0 : (B.write f (j : Int) I).1 = 0
            · rw [h0]
              rw [if_pos h0] at HN
              generalize (B.write f (j : Int) I).2 = B2 at *
              have HX : Aside (wrF B2 f gen (at_ + (k + 1)) (ps.drop (k + 1)) = wrF A' f gen at_ ps) := ⟨by rw [HN.out, show at_ + (k + 1) = j + 1 by omega]⟩
              clear HN h0 HB
              go_wp2
              go_roundw
              case rel => exact ⟨k + 1, B2, by omega, by push_cast; omega, by push_cast; rfl, HX, H4⟩
              case measure => simp [intOf]; omega
            · rw [if_neg h0] at HN
              have HX : Aside (wrP A name at_ gen ps = B.write f (j : Int) I) := ⟨by rw [← HA.out, HW.out, HN.out, if_neg h0]⟩
              obtain ⟨ec, hec⟩ : ∃ ec, ec = (B.write f (j : Int) I).1 := ⟨_, rfl⟩
              rw [← hec] at h0 ⊢
              have HE := Aside.mk hec
              clear HN hec HB HA HW
              go_wp2
              go_ret
              rw [HX.out, HE.out]
              exact ⟨rfl, H4.out⟩
          · rw [if_pos hfo] at HN
            have HX : Aside (wrP A name at_ gen ps = (1, B)) := ⟨by rw [← HA.out, HW.out, HN.out]; rfl⟩
            have HFo := Aside.mk hfo
            clear HN HB HA HW hfo
            go_wp2_with fail
            refine (ext_frame_bad f j gen s.A s.l.length s.cap _ HFo.out).mono ?_
            rintro e w3 ⟨rfl, rfl⟩
            clear hcx
            go_wp2
            go_ret
            rw [HX.out]
            exact ⟨rfl, HT.out⟩
        · have hkn' : k = n := by omega
          subst hkn'
          have hpl : ps.drop k = [] := by rw [HQ.out.2.2.2.1]; exact List.drop_eq_nil_of_le (by rw [List.length_map, HQ.out.2.2.1]; exact Nat.le_refl _)
          rw [hpl] at HB
          clear hpl
          have HB2 : Aside (wrF A' f gen at_ ps = B.sync f) := ⟨by rw [← HB.out]; rfl⟩
          clear HB hix i0 i1
          rw [HB2.out] at HW
          go_wp2_with fail
          refine (disk_sync E q d B f _ hf HT.out).mono ?_
          rintro e w4 ⟨rfl, h4⟩
          have H4 := Aside.mk h4
          clear h4
          by_cases h0 : (B.sync f).1 = 0
          · rw [h0]
            rw [if_pos h0] at HW
            have HX : Aside (wrL (B.sync f).2 at_ gen ps ((halvesL name).drop (h + 1)) = wrP A name at_ gen ps) := ⟨by rw [← HW.out, HA.out]⟩
            generalize (B.sync f).2 = B2 at *
            clear HW HA HB2 h0
            go_wp2
            go_roundw
            case rel => exact ⟨h + 1, B2, by omega, by push_cast; rfl, HX, H4⟩
            case measure => simp [intOf]; omega
          · rw [if_neg h0] at HW
            have HX : Aside (wrP A name at_ gen ps = B.sync f) := ⟨by rw [← HA.out, HW.out]⟩
            obtain ⟨ec, hec⟩ : ∃ ec, ec = (B.sync f).1 := ⟨_, rfl⟩
            rw [← hec] at h0 ⊢
            have HE := Aside.mk hec
            clear hec HB2 HA HW
            go_wp2
            go_ret
            rw [HX.out, HE.out]
            exact ⟨rfl, H4.out⟩
    · have hh2 : h = 2 := by omega
      subst hh2
      rw [HF.out] at HA
      have HX : Aside (wrP A name at_ gen ps = (0, A')) := ⟨by rw [← HA.out]; rfl⟩
      clear HA i0 i1
      go_wp2
      go_ret
      rw [HX.out]
      exact ⟨rfl, HS.out⟩
end Go.Proofs.YtanlgadijndmaaaDoor
/- pair.Put. -/
namespace Go.Proofs.YtanlgadijndmaaaDoor
open Go.RowKit HP
set_option linter.unusedSimpArgs false
set_option linter.unusedVariables false

def putP (A : Dk) (name : ByteArray) (i gen : Int) (p : List Int) : Int × Dk := if FrameOk i gen p.length then wrP A name i.toNat gen.toNat [p] else (1, A)
set_option maxHeartbeats 2000000 in
set_option maxRecDepth 100000 in
theorem pair_put (E : Env) (q : HP) (d : Nat) (A : Dk) (name : ByteArray) (i gen : Int) (Ap : Option Addr) (p : List Int) (n c : Nat) (w : World) (hname : name.size + 2 ≤ maxLen) (hpn : p.length = n) (hnc : n ≤ c) (hp : Bytes p)
    (hq : ∀ w, Sat E w q → Quarter w ∧ Cells w Ap (b8s p)) (hw : Sat E w (HP.disk d A * q)) :
    Calls Tryd.prog 72 #[.pointer (some ⟨d, 0, none⟩), .string name, .int .i64 i, .int .i64 gen, .slice Ap n c] w fun e w' => e = .returned (.int .i64 (putP A name i gen p).1) ∧ Sat E w' (HP.disk d (putP A name i gen p).2 * q) := by
  have HP' : Aside (putP A name i gen p = if FrameOk i gen n then wrP A name i.toNat gen.toNat [p] else (1, A)) := ⟨by rw [← hpn]; rfl⟩
  have hn2 : name.size ≤ maxLen := by omega
  have HQ := Aside.mk (And.intro hq (And.intro hp (And.intro hpn hw)))
  clear hq hp hpn hw
  by_cases hfo : FrameOk i gen n
  · rw [if_pos hfo] at HP'
    obtain ⟨h1, h2, h3, h4, h5⟩ := hfo
    obtain ⟨i, rfl⟩ := Int.eq_ofNat_of_zero_le h1
    obtain ⟨gen, rfl⟩ := Int.eq_ofNat_of_zero_le h3
    rw [Int.toNat_natCast, Int.toNat_natCast] at HP'
    go_enter Tryd.func72, Tryd.ntmps72
    go_wp2_with fail
    refine (pair_none E q d A _ HQ.out.2.2.2).mono ?_
    rintro e w1 ⟨rfl, k1⟩
    have K1 := Aside.mk k1
    clear k1
    go_wp2_with fail
    refine (ext_frame E (HP.disk d A * q) name i gen Ap p n c _ hn2 h2 h4 HQ.out.2.2.1 h5 HQ.out.2.1 (fun w h => HQ.out.1 _ h.right) K1.out).mono ?_
    rintro e w2 ⟨gI, rfl, k2⟩
    have k3 := (k2.right).alloc (.cells [Value.slice Ap n c].toArray 52)
    have K3 := Aside.mk k3
    clear k2 k3 K1
    go_wp2_with fail
    refine (pair_write E (HP.pt w2.heap.size (.cells [Value.slice Ap n c].toArray 52) * q) d A name i gen (some ⟨w2.heap.size, 0, none⟩) [⟨Ap, c, p⟩] 1 1 _ hname h2 h4 rfl (by unfold maxLen; omega) (fun s hs => by
      have : s = ⟨Ap, c, p⟩ := by simpa using hs
      subst this
      exact ⟨by show p.length ≤ c; rw [HQ.out.2.2.1]; exact hnc, HQ.out.2.1⟩) (fun w h => ⟨(HQ.out.1 _ h.right).1, by
        have := Sat.ptCells (off := 0) (l := [Value.slice Ap n c]) h rfl
        rw [show List.map Sl.val8 [⟨Ap, c, p⟩] = [Value.slice Ap n c] by rw [← HQ.out.2.2.1]; rfl]
        exact this, fun s hs => by
        have : s = ⟨Ap, c, p⟩ := by simpa using hs
        subst this
        exact (HQ.out.1 _ h.right).2⟩) K3.out.s2).mono ?_
    rintro e w3 ⟨rfl, k4⟩
    have K4 := Aside.mk k4.drop2
    clear k4 K3
    have HX : Aside (wrP A name i gen (List.map (·.l) [(⟨Ap, c, p⟩ : Sl Int)]) = putP A name i gen p) := ⟨by rw [HP'.out]; rfl⟩
    rw [HX.out] at K4 ⊢
    go_wp2
    go_ret
    exact ⟨rfl, K4.out⟩
  · rw [if_neg hfo] at HP'
    have HFo := Aside.mk hfo
    clear hfo
    go_enter Tryd.func72, Tryd.ntmps72
    go_wp2_with fail
    refine (pair_none E q d A _ HQ.out.2.2.2).mono ?_
    rintro e w1 ⟨rfl, k1⟩
    have K1 := Aside.mk k1
    clear k1
    go_wp2_with fail
    refine (ext_frame_bad name i gen Ap n c _ HFo.out).mono ?_
    rintro e w2 ⟨rfl, rfl⟩
    go_wp2
    go_ret
    rw [HP'.out]
    exact ⟨rfl, K1.out⟩
end Go.Proofs.YtanlgadijndmaaaDoor
/- pair.Get. -/
namespace Go.Proofs.YtanlgadijndmaaaDoor
open Go.RowKit HP
set_option linter.unusedSimpArgs false
set_option linter.unusedVariables false

/-- A half read: what is best so far. -/
def getF (A : Dk) (i : Int) (st : Int × List Int) (f : ByteArray) : Int × List Int :=
  match A.cel f i with
  | none => st
  | some c => match openI c.read f i with
    | none => st
    | some x => if (x.2 : Int) ≤ st.1 then st else ((x.2 : Int), x.1)
def getP (A : Dk) (name : ByteArray) (i : Int) : Int × List Int := (halvesL name).foldl (getF A i) (-1, [])
theorem openI_gen {b : List Int} {f : ByteArray} {i : Int} {p : List Int} {g : Nat} (h : openI b f i = some (p, g)) : (g : Int) ≤ 4611686018427387904 ∧ p.length ≤ 106 := by
  unfold openI at h
  split at h
  · cases h
  · split at h
    · cases h
    · split at h
      · cases h
      · rename_i h1 h2 h3
        simp only [Option.some.injEq, Prod.mk.injEq] at h
        obtain ⟨rfl, rfl⟩ := h
        refine ⟨by omega, ?_⟩
        rw [List.length_take]
        omega
def getEnd (st : Int × List Int) (v : Value) : Ending := if st.1 < 0 then .returned (.tuple #[.slice none 0 0, .int .i64 0, .int .i64 50]) else .returned (.tuple #[v, .int .i64 st.1, .int .i64 0])
set_option maxHeartbeats 2000000 in
set_option maxRecDepth 100000 in
theorem pair_get (E : Env) (q : HP) (d : Nat) (A : Dk) (name : ByteArray) (i : Int) (w : World) (hname : name.size + 2 ≤ maxLen) (hby : ∀ f ∈ halvesL name, ∀ c, A.cel f i = some c → Bytes c.read)
    (hq : ∀ w, Sat E w q → Quarter w) (hw : Sat E w (HP.disk d A * q)) :
    Calls Tryd.prog 79 #[.pointer (some ⟨d, 0, none⟩), .string name, .int .i64 i] w fun e w' => ∃ v, e = getEnd (getP A name i) v ∧ Sat E w' (HP.row 5 1 v (getP A name i).2.length (b8s (getP A name i).2) * (HP.disk d A * q)) := by
  have hfa : (name ++ dotA).size ≤ maxLen := by rw [dotA_size]; exact hname
  have hfb : (name ++ dotB).size ≤ maxLen := by rw [dotB_size]; exact hname
  have HF : Aside (halvesL name = [name ++ dotA, name ++ dotB]) := ⟨rfl⟩
  have HQ := Aside.mk (And.intro hq (And.intro hby hw))
  clear hq hw hby
  go_enter Tryd.func79, Tryd.ntmps79
  go_wp2_with fail
  refine (pair_none E q d A _ HQ.out.2.2).mono ?_
  rintro e w1 ⟨rfl, k1⟩
  have K1 := Aside.mk k1
  clear k1
  go_wp2_with fail
  refine (pair_halves E _ name _ hname K1.out).mono ?_
  rintro e w2 ⟨rfl, k2⟩
  obtain ⟨fa, hfae⟩ : ∃ fa, fa = name ++ dotA := ⟨_, rfl⟩
  obtain ⟨fb, hfbe⟩ : ∃ fb, fb = name ++ dotB := ⟨_, rfl⟩
  rw [← hfae] at hfa HF ⊢
  rw [← hfbe] at hfb HF ⊢
  clear hfae hfbe
  have K2 := Aside.mk (k2.row_nil 5 1 none)
  clear k2 K1
  have i0 : ∀ w, (Instr.index 144 (.agg #[.string fa, .string fb]) (.int .i64 0)).run Tryd.prog w = .ok (.string fa) w := fun w => by kernel_rfl
  have i1 : ∀ w, (Instr.index 144 (.agg #[.string fa, .string fb]) (.int .i64 1)).run Tryd.prog w = .ok (.string fb) w := fun w => by kernel_rfl
  go_wp2
  go_loopw [9, 10, 21] (fun v9 v10 v21 wr => ∃ (h : Nat) (best : Int) (p : List Int), h ≤ 2 ∧ v21 = .int .i64 h ∧ v9 = .int .i64 best ∧ best ≤ 4611686018427387904 ∧ -1 ≤ best ∧ p.length ≤ 106 ∧ Aside ((((halvesL name).drop h).foldl (getF A i) (best, p)) = getP A name i) ∧ Aside (Sat E wr (HP.row 5 1 v10 p.length (b8s p) * (HP.disk d A * q)))) (fun _ _ i _ => 2 - (intOf i).toNat)
  case atStart => exact ⟨0, -1, [], by omega, rfl, rfl, by omega, by omega, by simp, ⟨rfl⟩, K2⟩
  case round =>
    obtain ⟨h, best, p, hh, rfl, rfl, hb1, hb2, hpl, HG, HS⟩ := hrel
    by_cases hlt : h < 2
    · obtain ⟨f, hf, hfm, hff, hix⟩ : ∃ f : ByteArray, f.size ≤ maxLen ∧ f ∈ halvesL name ∧ (halvesL name).drop h = f :: (halvesL name).drop (h + 1) ∧ ∀ w, (Instr.index 144 (.agg #[.string fa, .string fb]) (.int .i64 (h : Int))).run Tryd.prog w = .ok (.string f) w := by
        rw [HF.out]
        rcases Nat.lt_or_ge h 1 with h0 | h0
        · obtain rfl : h = 0 := by omega
          exact ⟨fa, hfa, by simp, rfl, i0⟩
        · obtain rfl : h = 1 := by omega
          exact ⟨fb, hfb, by simp, rfl, i1⟩
      rw [hff, List.foldl_cons] at HG
      clear hff
      have hlt2 : (h : Int) < 2 := by omega
      have hby := HQ.out.2.1 f hfm
      clear hfm
      clear i0 i1
      go_wp2_with fail
      refine (disk_read_ok E _ d A f i _ hf HS.out.s2).mono ?_
      intro e w3 h3
      unfold readEnd at h3
      cases hc : A.cel f i with
      | none =>
        rw [hc] at h3
        obtain ⟨rfl, h3⟩ := h3
        have HG2 : Aside (((halvesL name).drop (h + 1)).foldl (getF A i) (best, p) = getP A name i) := ⟨by rw [← HG.out]; simp only [getF, hc]⟩
        have H3 := Aside.mk h3.s2
        clear h3 hc HG hby HS
        go_wp2
        go_roundw
        case rel => exact ⟨h + 1, best, p, by omega, by push_cast; rfl, rfl, hb1, hb2, hpl, HG2, H3⟩
        case measure => simp [intOf]; omega
      | some cl =>
        rw [hc] at h3
        obtain ⟨vr, rfl, h3⟩ := h3
        have hbr := hby cl hc
        obtain ⟨Ar, cr, rfl, hcr, -⟩ := h3.row_slice
        have hl128 : cl.read.length = 128 := by
          have := h3.row_cases.1
          rw [b8s_length] at this
          exact this
        have HC : Aside (getF A i (best, p) f = match openI cl.read f i with
            | none => (best, p)
            | some x => if (x.2 : Int) ≤ best then (best, p) else ((x.2 : Int), x.1)) := ⟨by simp only [getF, hc]⟩
        have H3 := Aside.mk (And.intro h3 (And.intro hbr hl128))
        clear h3 hbr hl128 hc hby HS
        go_wp2_with fail
        refine (ext_open E _ f i Ar cl.read 128 cr _ hf H3.out.2.2 hcr H3.out.2.1 (fun w h => ⟨HQ.out.1 _ h.right.right.right, h.row_cells⟩) H3.out.1).mono ?_
        rintro e w4 (⟨ho, rfl, h4⟩ | ⟨p2, G, vp, ho, rfl, h4⟩)
        · rw [ho] at HC
          rw [HC.out] at HG
          have H4 := Aside.mk (h4.right.s2)
          clear h4 ho HC H3
          go_wp2
          go_roundw
          case rel => exact ⟨h + 1, best, p, by omega, by push_cast; rfl, rfl, hb1, hb2, hpl, HG, H4⟩
          case measure => simp [intOf]; omega
        · obtain ⟨hG1, hp2⟩ := openI_gen ho
          rw [ho] at HC
          dsimp only at HC
          by_cases hle : (G : Int) ≤ best
          · rw [if_pos hle] at HC
            rw [HC.out] at HG
            have H4 := Aside.mk (h4.right.right.s2)
            clear h4 ho HC H3
            go_wp2
            go_roundw
            case rel => exact ⟨h + 1, best, p, by omega, by push_cast; rfl, rfl, hb1, hb2, hpl, HG, H4⟩
            case measure => simp [intOf]; omega
          · rw [if_neg hle] at HC
            rw [HC.out] at HG
            obtain ⟨A2, c2, rfl, -, -⟩ := h4.row_slice
            have H4 := Aside.mk h4
            clear h4 ho HC H3
            obtain ⟨m, hm⟩ : ∃ m, m = p2.length := ⟨_, rfl⟩
            rw [← hm] at H4 hp2 ⊢
            have HM := Aside.mk hm
            clear hm
            have hle2 : best < (G : Int) := by omega
            clear hle
            go_wp2_with (first
              | (refine wpList_make_row (n := m) slB8 rfl rfl rfl rfl rfl H4.out (by unfold maxLen; omega) (by omega) (fun g w5 hw5 => ?_); have HW5 := Aside.mk hw5; clear hw5)
              | (at_builtin; fail)
              | (refine wpList_copy_sat Tryd.underlying52 (by kernel_rfl) rfl rfl rfl rfl HW5.out (by rw [b8s_length]; exact HM.out.symm) (HW5.out.right.row_cells) (b8s_one _) (fun w6 hw6 => ?_); have HW6 := Aside.mk hw6; clear hw6))
            have HW7 : Aside (Sat E w6 (HP.row 5 1 (.slice (some ⟨g, 0, none⟩) m m) p2.length (b8s p2) * (HP.disk d A * q))) := ⟨by
              have h7 := HW6.out.drop2.drop2
              rw [List.take_of_length_le (by rw [b8s_length, ← HM.out]; exact Nat.le_refl _), List.drop_of_length_le (by simp), List.append_nil] at h7
              have h8 : Sat E w6 (HP.row 5 1 u10 p.length (b8s p) * (HP.row 5 1 (.slice (some ⟨g, 0, none⟩) m m) m (b8s p2) * (HP.disk d A * q))) := h7.perm (by ac_rfl)
              rw [← HM.out]
              exact h8.right⟩
            clear HW5 HW6 H4
            go_wp2
            go_roundw
            case rel => exact ⟨h + 1, (G : Int), p2, by omega, by push_cast; rfl, rfl, hG1, by omega, by rw [← HM.out]; omega, HG, HW7⟩
            case measure => simp [intOf]; omega
    · have hh2 : h = 2 := by omega
      subst hh2
      rw [HF.out] at HG
      have HX : Aside (getP A name i = (best, p)) := ⟨HG.out.symm⟩
      clear HG i0 i1
      by_cases hneg : best < 0
      · go_wp2
        go_ret3
        rw [HX.out]
        exact ⟨_, by unfold getEnd; rw [if_pos hneg]; rfl, HS.out⟩
      · go_wp2
        go_ret3
        rw [HX.out]
        exact ⟨_, by unfold getEnd; rw [if_neg (by show ¬ best < 0; omega)]; rfl, HS.out⟩
end Go.Proofs.YtanlgadijndmaaaDoor
/- anchor.Fresh, Save, Load. -/
namespace Go.Proofs.YtanlgadijndmaaaDoor
open Go.RowKit HP
set_option linter.unusedSimpArgs false
set_option linter.unusedVariables false

def freshA : Anch := ⟨0, 1, 0, 1, 0, -9223372036854775808, -9223372036854775808, 0, 1, 0⟩
set_option maxHeartbeats 1000000 in
set_option maxRecDepth 100000 in
theorem fresh_ok (E : Env) (q : HP) (w : World) (hw : Sat E w q) :
    Calls Tryd.prog 75 #[] w fun e w' => e = .returned freshA.val ∧ Sat E w' q := by
  have H1 := Aside.mk (hw.alloc (.cells #[.int .i64 0, .int .i64 1, .int .i64 0, .int .i64 1, .int .i64 0, .int .i64 (-9223372036854775808), .int .i64 (-9223372036854775808), .int .i64 0, .int .i64 1, .int .i64 0] 34))
  clear hw
  go_enter Tryd.func75, Tryd.ntmps75
  go_wp2
  refine bodyPost_ret (results_cell (t := 0) rfl rfl (run_loadAgg agAnch (cs := i8s freshA.l) rfl (Sat.ptCells (off := 0) H1.out rfl))) rfl ?_
  exact ⟨rfl, H1.out.right⟩
def nameA : ByteArray := ⟨#[97, 110, 99, 104, 111, 114]⟩
def Anch.up (a : Anch) : Anch := { a with seq := a.seq + 1 }
def saveP (A : Dk) (a : Anch) : (Anch × Int) × Dk :=
  if btw 0 [a.seq] = true ∧ canA a.up = true then
    (if (putP A nameA 0 a.up.seq (encI a.up.l)).1 = 0 then (a.up, 0) else (zeroA, (putP A nameA 0 a.up.seq (encI a.up.l)).1), (putP A nameA 0 a.up.seq (encI a.up.l)).2)
  else ((zeroA, 1), A)
def loadA (A : Dk) : Anch × Int :=
  if 0 ≤ (getP A nameA 0).1 ∧ (decP (getP A nameA 0).2).2 = 0 ∧ (decP (getP A nameA 0).2).1.seq = (getP A nameA 0).1 then ((decP (getP A nameA 0).2).1, 0) else (zeroA, 170)
theorem openI_bytes {b : List Int} {f : ByteArray} {i : Int} {p : List Int} {g : Nat} (h : openI b f i = some (p, g)) (hb : Bytes b) : Bytes p := by
  unfold openI at h
  split at h
  · cases h
  · split at h
    · cases h
    · split at h
      · cases h
      · simp only [Option.some.injEq, Prod.mk.injEq] at h
        rw [← h.1]
        exact fun y hy => hb y (List.mem_of_mem_drop (List.mem_of_mem_take hy))
theorem getF_bytes {A : Dk} {i : Int} {st : Int × List Int} {f : ByteArray} (hs : Bytes st.2) (hb : ∀ c, A.cel f i = some c → Bytes c.read) : Bytes (getF A i st f).2 := by
  unfold getF
  cases hc : A.cel f i with
  | none => exact hs
  | some c =>
    dsimp only
    cases ho : openI c.read f i with
    | none => exact hs
    | some x =>
      dsimp only
      split
      · exact hs
      · exact openI_bytes (p := x.1) (g := x.2) ho (hb c hc)
theorem getP_bytes {A : Dk} {name : ByteArray} {i : Int} (hb : ∀ f ∈ halvesL name, ∀ c, A.cel f i = some c → Bytes c.read) : Bytes (getP A name i).2 := by
  unfold getP halvesL
  exact getF_bytes (getF_bytes (fun x hx => by cases hx) (hb _ (List.mem_cons_self ..))) (hb _ (List.mem_cons_of_mem _ (List.mem_cons_self ..)))
set_option maxHeartbeats 2000000 in
set_option maxRecDepth 100000 in
theorem anchor_load (E : Env) (q : HP) (d : Nat) (A : Dk) (w : World) (hby : ∀ f ∈ halvesL nameA, ∀ c, A.cel f 0 = some c → Bytes c.read) (hq : ∀ w, Sat E w q → Quarter w) (hw : Sat E w (HP.disk d A * q)) :
    Calls Tryd.prog 26 #[.pointer (some ⟨d, 0, none⟩)] w fun e w' => e = .returned (.tuple #[(loadA A).1.val, .int .i64 (loadA A).2]) ∧ Sat E w' (HP.disk d A * q) := by
  have h1 := hw.alloc (.cells #[.int .i64 0, .int .i64 0, .int .i64 0, .int .i64 0, .int .i64 0, .int .i64 0, .int .i64 0, .int .i64 0, .int .i64 0, .int .i64 0] 34)
  have H1 : Aside (Sat E (w.alloc (.cells #[.int .i64 0, .int .i64 0, .int .i64 0, .int .i64 0, .int .i64 0, .int .i64 0, .int .i64 0, .int .i64 0, .int .i64 0, .int .i64 0] 34)) (HP.disk d A * (HP.pt w.heap.size (.cells #[.int .i64 0, .int .i64 0, .int .i64 0, .int .i64 0, .int .i64 0, .int .i64 0, .int .i64 0, .int .i64 0, .int .i64 0, .int .i64 0] 34) * q))) := ⟨h1.perm (by ac_rfl)⟩
  have HQ := Aside.mk (And.intro hq hby)
  have hx : nameA.size + 2 ≤ maxLen := by show 8 ≤ maxLen; unfold maxLen; omega
  have HX := Aside.mk hx
  have HL : Aside (loadA A = if 0 ≤ (getP A nameA 0).1 ∧ (decP (getP A nameA 0).2).2 = 0 ∧ (decP (getP A nameA 0).2).1.seq = (getP A nameA 0).1 then ((decP (getP A nameA 0).2).1, 0) else (zeroA, 170)) := ⟨rfl⟩
  clear hq hby hw h1 hx
  go_enter Tryd.func26, Tryd.ntmps26
  go_wp2_with fail
  refine (pair_get E _ d A nameA 0 _ HX.out HQ.out.2 (fun w h => HQ.out.1 w h.right) H1.out).mono ?_
  rintro e w1 ⟨v, rfl, h2⟩
  obtain ⟨⟨best, p⟩, hst⟩ : ∃ st, st = getP A nameA 0 := ⟨_, rfl⟩
  have hpb := getP_bytes HQ.out.2
  rw [← hst] at h2 HL hpb ⊢
  clear hst
  dsimp only at h2 HL hpb
  unfold getEnd
  dsimp only
  by_cases hneg : best < 0
  · rw [if_pos hneg]
    have HX2 : Aside (loadA A = (zeroA, 170)) := ⟨by rw [HL.out, if_neg (by omega)]⟩
    have H2 := Aside.mk h2.right
    clear h2 HL
    go_wp2_with fail
    refine (decode_ok E _ none [] 0 0 _ rfl (by omega) (by unfold maxLen; omega) (fun x hx => by cases hx) (fun w h => Cells.nil _ _) H2.out).mono ?_
    rintro e w2 ⟨rfl, h3⟩
    rw [show decP [] = (zeroA, 5) from rfl]
    dsimp only
    rw [show zeroA.val = .agg #[.int .i64 0, .int .i64 0, .int .i64 0, .int .i64 0, .int .i64 0, .int .i64 0, .int .i64 0, .int .i64 0, .int .i64 0, .int .i64 0] from rfl]
    have H4 : Aside (Sat E (w2.alloc (.cells #[.int .i64 0, .int .i64 0, .int .i64 0, .int .i64 0, .int .i64 0, .int .i64 0, .int .i64 0, .int .i64 0, .int .i64 0, .int .i64 0] 34)) (HP.pt w.heap.size (.cells #[.int .i64 0, .int .i64 0, .int .i64 0, .int .i64 0, .int .i64 0, .int .i64 0, .int .i64 0, .int .i64 0, .int .i64 0, .int .i64 0] 34) * (HP.disk d A * q))) := ⟨(h3.alloc (.cells #[.int .i64 0, .int .i64 0, .int .i64 0, .int .i64 0, .int .i64 0, .int .i64 0, .int .i64 0, .int .i64 0, .int .i64 0, .int .i64 0] 34)).right.perm (by ac_rfl)⟩
    clear h3 H2
    have r2 : (storeVar 34 ⟨w.heap.size, 0, none⟩ (.agg (i8s zeroA.l).toArray)).run Tryd.prog (w2.alloc (.cells #[.int .i64 0, .int .i64 0, .int .i64 0, .int .i64 0, .int .i64 0, .int .i64 0, .int .i64 0, .int .i64 0, .int .i64 0, .int .i64 0] 34)) = .ok () ((w2.alloc (.cells #[.int .i64 0, .int .i64 0, .int .i64 0, .int .i64 0, .int .i64 0, .int .i64 0, .int .i64 0, .int .i64 0, .int .i64 0, .int .i64 0] 34)).setRow w.heap.size (i8s zeroA.l).toArray) := run_storeAgg agAnch (g := w.heap.size) (off := 0) (cs := i8s zeroA.l) H4.out.get rfl (by show 0 + 10 ≤ 10; omega) rfl
    have h5 := H4.out.splice (i8s zeroA.l)
    have H5 := Aside.mk h5
    clear h5 H4
    generalize World.setRow (w2.alloc _) _ _ = w5 at *
    go_wp2_with (refine wpList_store_run rfl rfl rfl rfl rfl r2 ?_)
    go_wp2
    refine bodyPost_ret (results_cellTmp rfl rfl (run_loadAgg agAnch (cs := i8s zeroA.l) rfl (Sat.ptCells (off := 0) H5.out rfl))) rfl ?_
    rw [HX2.out]
    exact ⟨rfl, H5.out.right⟩
  · rw [if_neg hneg]
    obtain ⟨Av, cv, rfl, hcv, hcm⟩ := h2.row_slice
    have H2 := Aside.mk h2
    have HPB := Aside.mk hpb
    clear hpb
    obtain ⟨⟨a, c⟩, hac⟩ : ∃ r, r = decP p := ⟨_, rfl⟩
    rw [← hac] at HL
    have HD := Aside.mk hac.symm
    clear h2 hac
    go_wp2_with fail
    refine (decode_ok E _ Av p p.length cv _ rfl hcv hcm HPB.out (fun w h => h.row_cells) H2.out).mono ?_
    rintro e w2 ⟨rfl, h3⟩
    rw [HD.out]
    dsimp only
    rw [show a.val = .agg #[.int .i64 a.seq, .int .i64 a.gen, .int .i64 a.lsn, .int .i64 a.seg, .int .i64 a.ext, .int .i64 a.flo, .int .i64 a.new, .int .i64 a.keep, .int .i64 a.next, .int .i64 a.cur] from rfl]
    have H4 : Aside (Sat E (w2.alloc (.cells #[.int .i64 a.seq, .int .i64 a.gen, .int .i64 a.lsn, .int .i64 a.seg, .int .i64 a.ext, .int .i64 a.flo, .int .i64 a.new, .int .i64 a.keep, .int .i64 a.next, .int .i64 a.cur] 34)) (HP.pt w.heap.size (.cells #[.int .i64 0, .int .i64 0, .int .i64 0, .int .i64 0, .int .i64 0, .int .i64 0, .int .i64 0, .int .i64 0, .int .i64 0, .int .i64 0] 34) * (HP.disk d A * q))) := ⟨(h3.alloc (.cells #[.int .i64 a.seq, .int .i64 a.gen, .int .i64 a.lsn, .int .i64 a.seg, .int .i64 a.ext, .int .i64 a.flo, .int .i64 a.new, .int .i64 a.keep, .int .i64 a.next, .int .i64 a.cur] 34)).right.right.perm (by ac_rfl)⟩
    clear h3 H2 HD HPB
    by_cases hc : c = 0
    · subst hc
      by_cases hs : a.seq = best
      · subst hs
        have HX2 : Aside (loadA A = (a, 0)) := ⟨by rw [HL.out, if_pos ⟨by omega, rfl, rfl⟩]⟩
        clear HL
        have r2 : (storeVar 34 ⟨w.heap.size, 0, none⟩ (.agg (i8s a.l).toArray)).run Tryd.prog (w2.alloc (.cells #[.int .i64 a.seq, .int .i64 a.gen, .int .i64 a.lsn, .int .i64 a.seg, .int .i64 a.ext, .int .i64 a.flo, .int .i64 a.new, .int .i64 a.keep, .int .i64 a.next, .int .i64 a.cur] 34)) = .ok () ((w2.alloc (.cells #[.int .i64 a.seq, .int .i64 a.gen, .int .i64 a.lsn, .int .i64 a.seg, .int .i64 a.ext, .int .i64 a.flo, .int .i64 a.new, .int .i64 a.keep, .int .i64 a.next, .int .i64 a.cur] 34)).setRow w.heap.size (i8s a.l).toArray) := run_storeAgg agAnch (g := w.heap.size) (off := 0) (cs := i8s a.l) H4.out.get rfl (by show 0 + 10 ≤ 10; omega) rfl
        have h5 := H4.out.splice (i8s a.l)
        have H5 := Aside.mk h5
        clear h5 H4
        generalize World.setRow (w2.alloc _) _ _ = w5 at *
        go_wp2_with (refine wpList_store_run rfl rfl rfl rfl rfl r2 ?_)
        go_wp2
        refine bodyPost_ret (results_cellTmp rfl rfl (run_loadAgg agAnch (cs := i8s a.l) rfl (Sat.ptCells (off := 0) H5.out rfl))) rfl ?_
        rw [HX2.out]
        exact ⟨rfl, H5.out.right⟩
      · have HX2 : Aside (loadA A = (zeroA, 170)) := ⟨by rw [HL.out, if_neg (fun h => hs h.2.2)]⟩
        have hsb : (a.seq == best) = false := by rw [beq_eq_false_iff_ne]; exact hs
        clear HL
        have r2 : (storeVar 34 ⟨w.heap.size, 0, none⟩ (.agg (i8s zeroA.l).toArray)).run Tryd.prog (w2.alloc (.cells #[.int .i64 a.seq, .int .i64 a.gen, .int .i64 a.lsn, .int .i64 a.seg, .int .i64 a.ext, .int .i64 a.flo, .int .i64 a.new, .int .i64 a.keep, .int .i64 a.next, .int .i64 a.cur] 34)) = .ok () ((w2.alloc (.cells #[.int .i64 a.seq, .int .i64 a.gen, .int .i64 a.lsn, .int .i64 a.seg, .int .i64 a.ext, .int .i64 a.flo, .int .i64 a.new, .int .i64 a.keep, .int .i64 a.next, .int .i64 a.cur] 34)).setRow w.heap.size (i8s zeroA.l).toArray) := run_storeAgg agAnch (g := w.heap.size) (off := 0) (cs := i8s zeroA.l) H4.out.get rfl (by show 0 + 10 ≤ 10; omega) rfl
        have h5 := H4.out.splice (i8s zeroA.l)
        have H5 := Aside.mk h5
        clear h5 H4
        generalize World.setRow (w2.alloc _) _ _ = w5 at *
        go_wp2_with (refine wpList_store_run rfl rfl rfl rfl rfl r2 ?_)
        go_wp2
        refine bodyPost_ret (results_cellTmp rfl rfl (run_loadAgg agAnch (cs := i8s zeroA.l) rfl (Sat.ptCells (off := 0) H5.out rfl))) rfl ?_
        rw [HX2.out]
        exact ⟨rfl, H5.out.right⟩
    · have HX2 : Aside (loadA A = (zeroA, 170)) := ⟨by rw [HL.out, if_neg (fun h => hc h.2.1)]⟩
      have hcb : (c == 0) = false := by rw [beq_eq_false_iff_ne]; exact hc
      clear HL
      have r2 : (storeVar 34 ⟨w.heap.size, 0, none⟩ (.agg (i8s zeroA.l).toArray)).run Tryd.prog (w2.alloc (.cells #[.int .i64 a.seq, .int .i64 a.gen, .int .i64 a.lsn, .int .i64 a.seg, .int .i64 a.ext, .int .i64 a.flo, .int .i64 a.new, .int .i64 a.keep, .int .i64 a.next, .int .i64 a.cur] 34)) = .ok () ((w2.alloc (.cells #[.int .i64 a.seq, .int .i64 a.gen, .int .i64 a.lsn, .int .i64 a.seg, .int .i64 a.ext, .int .i64 a.flo, .int .i64 a.new, .int .i64 a.keep, .int .i64 a.next, .int .i64 a.cur] 34)).setRow w.heap.size (i8s zeroA.l).toArray) := run_storeAgg agAnch (g := w.heap.size) (off := 0) (cs := i8s zeroA.l) H4.out.get rfl (by show 0 + 10 ≤ 10; omega) rfl
      have h5 := H4.out.splice (i8s zeroA.l)
      have H5 := Aside.mk h5
      clear h5 H4
      generalize World.setRow (w2.alloc _) _ _ = w5 at *
      go_wp2_with (refine wpList_store_run rfl rfl rfl rfl rfl r2 ?_)
      go_wp2
      refine bodyPost_ret (results_cellTmp rfl rfl (run_loadAgg agAnch (cs := i8s zeroA.l) rfl (Sat.ptCells (off := 0) H5.out rfl))) rfl ?_
      rw [HX2.out]
      exact ⟨rfl, H5.out.right⟩
end Go.Proofs.YtanlgadijndmaaaDoor
/- What is framed is opened; two extents written and read. -/
namespace Go.Proofs.YtanlgadijndmaaaDoor
open Go.RowKit HP
set_option linter.unusedSimpArgs false
set_option linter.unusedVariables false

theorem extI_parts {f : ByteArray} {i g : Nat} {p : List Int} (h : p.length ≤ 106) :
    (extI f i g p).getD 17 0 = p.length ∧ ((extI f i g p).drop 9).take 8 = putI g 8 ∧ ((extI f i g p).drop 18).take p.length = p := by
  have e : extI f i g p = ([229] ++ putI (crcSum (strB f)) 4 ++ putI i 4) ++ (putI g 8 ++ ((p.length : Int) :: (p ++ (List.replicate (106 - p.length) 0 ++ putI (crcSum (extH f i g p)) 4)))) := by
    unfold extI
    conv => lhs; arg 1; unfold extH
    simp only [List.append_assoc, List.cons_append, List.nil_append]
  have l1 : ([229] ++ putI (crcSum (strB f)) 4 ++ putI i 4 : List Int).length = 9 := by simp [putI_length]
  have d9 : (extI f i g p).drop 9 = putI g 8 ++ ((p.length : Int) :: (p ++ (List.replicate (106 - p.length) 0 ++ putI (crcSum (extH f i g p)) 4))) := by
    rw [e, ← l1, List.drop_left]
  have d17 : (extI f i g p).drop 17 = (p.length : Int) :: (p ++ (List.replicate (106 - p.length) 0 ++ putI (crcSum (extH f i g p)) 4)) := by
    rw [show 17 = 9 + 8 from rfl, ← List.drop_drop, d9, List.drop_left' (putI_length g 8)]
  refine ⟨?_, ?_, ?_⟩
  · have := congrArg (fun l => l[0]?) d17
    simp only [List.getElem?_drop, Nat.add_zero, List.getElem?_cons_zero] at this
    simp [List.getD, this]
  · rw [d9]
    have := putI_length g 8
    rw [List.take_append_of_le_length (by omega), List.take_of_length_le (by omega)]
  · rw [show 18 = 17 + 1 from rfl, ← List.drop_drop, d17, List.drop_one, List.tail_cons, List.take_left]
theorem openI_extI {f : ByteArray} {i g : Nat} {p : List Int} (hi : i ≤ 2147483647) (hg : g ≤ 4611686018427387904) (h : p.length ≤ 106) : openI (extI f i g p) f i = some (p, g) := by
  obtain ⟨h1, h2, h3⟩ := extI_parts (f := f) (i := i) (g := g) h
  unfold openI
  rw [h1, h2, Int.toNat_natCast, Int.toNat_natCast, h3, getN_putI 8 g (by omega)]
  rw [if_neg (by rw [extI_length h]; omega), if_neg (by omega), if_neg (by simp)]

def stl (I : List Int) : Cel := ⟨I, I, I, I, false⟩
theorem stl_sync (c : Cel) (I : List Int) : (c.wrote I).syncd = stl I := rfl
structure TwoNames (fa fb : ByteArray) : Prop where
  na : namedB fa = true
  nb : namedB fb = true
  ne : fa ≠ fb
  lt : ltN fa fb = true
  gt : ltN fb fa = false
def wr1 (A : Dk) (f : ByteArray) (i : Int) (I : List Int) : Int × Dk := if (A.write f i I).1 = 0 then (A.write f i I).2.sync f else A.write f i I
def put2 (A : Dk) (fa fb : ByteArray) (i : Int) (Ia Ib : List Int) : Int × Dk :=
  if (wr1 A fa i Ia).1 = 0 then (if (wr1 (wr1 A fa i Ia).2 fb i Ib).1 = 0 then (0, (wr1 (wr1 A fa i Ia).2 fb i Ib).2) else wr1 (wr1 A fa i Ia).2 fb i Ib) else wr1 A fa i Ia
theorem wrF_one {A : Dk} {f : ByteArray} {i g : Nat} {p : List Int} (hf : FrameOk i g p.length) : wrF A f g i [p] = wr1 A f i (extI f i g p) := by
  unfold wrF wr1
  rw [if_neg (by simpa using hf)]
  rfl
theorem putP_two {A : Dk} {x : ByteArray} {i g : Nat} {p : List Int} (hf : FrameOk i g p.length) : putP A x i g p = put2 A (x ++ dotA) (x ++ dotB) i (extI (x ++ dotA) i g p) (extI (x ++ dotB) i g p) := by
  unfold putP
  rw [if_pos hf, Int.toNat_natCast, Int.toNat_natCast]
  unfold wrP halvesL
  simp only [wrL, wrF_one hf]
  rfl
def two (room fuse : Int) (fa fb : ByteArray) (a b : Cel) : Dk := ⟨room, fuse, [(fa, [a]), (fb, [b])]⟩
section
variable {fa fb : ByteArray} {Ia Ib : List Int} (T : TwoNames fa fb) (la : Ia.length = 128) (lb : Ib.length = 128)
include T la lb
theorem put_first : put2 (Dk.new 4) fa fb 0 Ia Ib = (0, two 4 (-1) fa fb (stl Ia) (stl Ib)) := by
  obtain ⟨na, nb, ne, lt, gt⟩ := T
  have ne' := Ne.symm ne
  simp [put2, wr1, Dk.write, Dk.sync, Dk.new, Dk.at, Dk.free, Dk.goes, Dk.burnt, burnI, Dk.set, lk_nil, lk_cons, putF, sizeF, na, nb, ne, ne', lt, gt, la, lb, stl_sync, two]
theorem put_first2 : put2 (Dk.new 2) fa fb 0 Ia Ib = (0, two 2 (-1) fa fb (stl Ia) (stl Ib)) := by
  obtain ⟨na, nb, ne, lt, gt⟩ := T
  have ne' := Ne.symm ne
  simp [put2, wr1, Dk.write, Dk.sync, Dk.new, Dk.at, Dk.free, Dk.goes, Dk.burnt, burnI, Dk.set, lk_nil, lk_cons, putF, sizeF, na, nb, ne, ne', lt, gt, la, lb, stl_sync, two]
end
theorem cel_a {room fuse : Int} {fa fb : ByteArray} {a b : Cel} : (two room fuse fa fb a b).cel fa 0 = some a := by simp [two, Dk.cel, Dk.at, lk_cons]
theorem cel_b {room fuse : Int} {fa fb : ByteArray} {a b : Cel} (h : fa ≠ fb) : (two room fuse fa fb a b).cel fb 0 = some b := by simp [two, Dk.cel, Dk.at, lk_cons, h]
/-- Of two halves that are right the greater generation counts; of two alike the first. -/
theorem get_two {x : ByteArray} (h : x ++ dotA ≠ x ++ dotB) {room fuse : Int} {ca cb : Cel} {ga gb : Nat} (ha : ga ≤ 4611686018427387904) (hb : gb ≤ 4611686018427387904) {pa pb : List Int} (la : pa.length ≤ 106) (lb : pb.length ≤ 106)
    (ra : ca.read = extI (x ++ dotA) 0 ga pa) (rb : cb.read = extI (x ++ dotB) 0 gb pb) :
    getP (two room fuse (x ++ dotA) (x ++ dotB) ca cb) x 0 = if (gb : Int) ≤ ga then ((ga : Int), pa) else ((gb : Int), pb) := by
  have oa := openI_extI (f := x ++ dotA) (i := 0) (by omega) ha la
  have ob := openI_extI (f := x ++ dotB) (i := 0) (by omega) hb lb
  simp only [Int.ofNat_zero, Int.natCast_zero] at oa ob
  rw [← ra] at oa
  rw [← rb] at ob
  unfold getP halvesL
  simp only [List.foldl_cons, List.foldl_nil]
  rw [show getF _ 0 (-1, []) (x ++ dotA) = ((ga : Int), pa) by simp only [getF, cel_a, oa]; rw [if_neg (by show ¬ (ga : Int) ≤ -1; omega)]]
  simp only [getF, cel_b h, ob]
def exS : ByteArray := ⟨#[120]⟩
theorem twoEx : TwoNames (exS ++ dotA) (exS ++ dotB) := ⟨by kernel_rfl, by kernel_rfl, by decide, by kernel_rfl, by kernel_rfl⟩
end Go.Proofs.YtanlgadijndmaaaDoor
/- anchor, the plain part: what is coded is read; an anchor saved on a new disk is there. -/
namespace Go.Proofs.YtanlgadijndmaaaDoor
open Go.RowKit HP
set_option linter.unusedSimpArgs false
set_option linter.unusedVariables false

theorem encI_piece : ∀ {l : List Int} {k : Nat} {x : Int}, l[k]? = some x → ((encI l).drop (8 * k)).take 8 = putI (n64 x) 8
  | [], k, x, h => by simp at h
  | y :: t, 0, x, h => by
    simp only [List.getElem?_cons_zero, Option.some.injEq] at h
    subst h
    show ((putI (n64 y) 8 ++ encI t).drop 0).take 8 = _
    rw [List.drop_zero, List.take_left' (putI_length _ _)]
  | y :: t, k + 1, x, h => by
    have ih := encI_piece (l := t) (k := k) (x := x) (by simpa using h)
    show ((putI (n64 y) 8 ++ encI t).drop (8 * (k + 1))).take 8 = _
    rw [show 8 * (k + 1) = 8 + 8 * k by omega, ← List.drop_drop, List.drop_left' (putI_length _ _), ih]
theorem decN_encI {l : List Int} {k : Nat} {x : Int} (h : l[k]? = some x) (hx : wf64 x) : decN (encI l) k = x := by
  unfold decN
  rw [encI_piece h, getN_putI 8 _ (n64_lt x)]
  unfold wrap64 n64
  unfold wf64 at hx
  omega
structure Anch.Ok (a : Anch) : Prop where
  seq : wf64 a.seq
  gen : wf64 a.gen
  lsn : wf64 a.lsn
  seg : wf64 a.seg
  ext : wf64 a.ext
  flo : wf64 a.flo
  new : wf64 a.new
  keep : wf64 a.keep
  next : wf64 a.next
  cur : wf64 a.cur
theorem decA_encI {a : Anch} (h : a.Ok) : decA (encI a.l) = a := by
  unfold decA
  rw [decN_encI (l := a.l) (k := 0) rfl h.seq, decN_encI (l := a.l) (k := 1) rfl h.gen, decN_encI (l := a.l) (k := 2) rfl h.lsn, decN_encI (l := a.l) (k := 3) rfl h.seg, decN_encI (l := a.l) (k := 4) rfl h.ext,
    decN_encI (l := a.l) (k := 5) rfl h.flo, decN_encI (l := a.l) (k := 6) rfl h.new, decN_encI (l := a.l) (k := 7) rfl h.keep, decN_encI (l := a.l) (k := 8) rfl h.next, decN_encI (l := a.l) (k := 9) rfl h.cur]
theorem decP_encI {a : Anch} (h : a.Ok) (hc : canA a = true) : decP (encI a.l) = (a, 0) := by
  unfold decP
  rw [decA_encI h, if_pos ⟨by rw [encI_length]; rfl, hc⟩]
theorem twoAnch : TwoNames (nameA ++ dotA) (nameA ++ dotB) := ⟨by kernel_rfl, by kernel_rfl, by decide, by kernel_rfl, by kernel_rfl⟩
instance (i : Int) : Decidable (wf64 i) := by unfold wf64; infer_instance
theorem fresh_up_ok : freshA.up.Ok := ⟨by decide, by decide, by decide, by decide, by decide, by decide, by decide, by decide, by decide, by decide⟩
theorem fresh_can : canA freshA.up = true := by decide
structure SavedEnd (B : Dk) : Prop where
  save : saveP (Dk.new 2) freshA = ((freshA.up, 0), B)
  load : loadA B = (freshA.up, 0)
  bytes : ∀ f ∈ halvesL nameA, ∀ c, B.cel f 0 = some c → Bytes c.read
theorem saved_end : ∃ B, SavedEnd B := by
  have hl : (encI freshA.up.l).length = 80 := by rw [encI_length]; rfl
  have f1 : FrameOk ((0 : Nat) : Int) ((1 : Nat) : Int) (encI freshA.up.l).length := ⟨by omega, by omega, by omega, by omega, by rw [hl]; omega⟩
  have p1 : putP (Dk.new 2) nameA 0 1 (encI freshA.up.l) = _ := putP_two (A := Dk.new 2) (x := nameA) f1
  have la : ∀ f, (extI f 0 1 (encI freshA.up.l)).length = 128 := fun f => extI_length (by rw [hl]; omega)
  rw [show ((0 : Nat) : Int) = 0 from rfl, put_first2 twoAnch (la _) (la _)] at p1
  have g1 := get_two (x := nameA) twoAnch.ne (room := 2) (fuse := -1) (ca := stl (extI (nameA ++ dotA) 0 1 (encI freshA.up.l))) (cb := stl (extI (nameA ++ dotB) 0 1 (encI freshA.up.l))) (ga := 1) (gb := 1) (by omega) (by omega) (by rw [hl]; omega) (by rw [hl]; omega) rfl rfl
  rw [if_pos (by omega)] at g1
  refine ⟨two 2 (-1) (nameA ++ dotA) (nameA ++ dotB) (stl (extI (nameA ++ dotA) 0 1 (encI freshA.up.l))) (stl (extI (nameA ++ dotB) 0 1 (encI freshA.up.l))), ⟨?_, ?_, ?_⟩⟩
  · unfold saveP
    rw [if_pos ⟨by decide, fresh_can⟩, show freshA.up.seq = 1 from rfl, p1]
    rfl
  · unfold loadA
    rw [g1]
    dsimp only
    rw [decP_encI fresh_up_ok fresh_can, if_pos ⟨by omega, rfl, rfl⟩]
  · have hb : ∀ f, Bytes (extI f 0 1 (encI freshA.up.l)) := fun f => extI_bytes (by rw [hl]; omega) (encI_bytes _)
    intro f hf c hc
    rcases List.mem_cons.1 hf with rfl | hf
    · rw [cel_a] at hc
      cases hc
      exact hb _
    · rcases List.mem_cons.1 hf with rfl | hf
      · rw [cel_b twoAnch.ne] at hc
        cases hc
        exact hb _
      · cases hf
end Go.Proofs.YtanlgadijndmaaaDoor
/- (*Disk).Rot. -/
namespace Go.Proofs.YtanlgadijndmaaaDoor
open Go.RowKit HP
set_option linter.unusedSimpArgs false
set_option linter.unusedVariables false

/-- Two bytes xored. -/
def xorB (a b : Int) : Int := bits .xor .u8 a b
def xorAt (l : List Int) (k : Nat) (m : Int) : List Int := l.set k (xorB (l.getD k 0) m)
theorem xorAt_length (l : List Int) (k : Nat) (m : Int) : (xorAt l k m).length = l.length := List.length_set
def Cel.rotd (c : Cel) (k : Nat) (m : Int) : Cel := if c.waits then { c with durable := xorAt c.durable k m } else { c with read := xorAt c.read k m, durable := xorAt c.durable k m }
theorem Cel.rotd_fine {c : Cel} (h : c.Fine) (k : Nat) (m : Int) : (c.rotd k m).Fine := by
  unfold Cel.rotd
  split
  · exact ⟨h.1, (xorAt_length _ _ _).trans h.2.1, h.2.2.1, h.2.2.2⟩
  · exact ⟨(xorAt_length _ _ _).trans h.1, (xorAt_length _ _ _).trans h.2.1, h.2.2.1, h.2.2.2⟩
def Dk.rot (A : Dk) (s : ByteArray) (i at_ m : Int) : Int × Dk :=
  match A.cel s i with
  | none => (30, A)
  | some c => if at_ < 0 ∨ 128 ≤ at_ then (1, A) else (0, A.set s ((A.at s).set i.toNat (c.rotd at_.toNat m)))
theorem celAt_some {fs : List Fil} {s : ByteArray} {i : Int} {x : Nat × Cel} (h : celAt fs s i = some x) : ∃ (j : Nat) (f : Fil) (k : Nat), fs[j]? = some f ∧ f.name = s ∧ i = (k : Int) ∧ f.cels[k]? = some x := by
  unfold celAt at h
  cases hf : fs.find? (fun f => decide (f.name = s)) with
  | none => rw [hf] at h; cases h
  | some f =>
    rw [hf] at h
    dsimp only at h
    split at h
    · rename_i hi
      obtain ⟨j, hj⟩ := List.getElem?_of_mem (List.mem_of_find?_eq_some hf)
      have hn := List.find?_some hf
      simp only [decide_eq_true_eq] at hn
      exact ⟨j, f, i.toNat, hj, hn, by omega, h⟩
    · cases h
section
variable {E : Env} {q : HP} {w : World} {b : Nat} {c : Cel}
theorem cel_byte_read (h : Sat E w (HP.cel b c * q)) (hf : c.Fine) {k : Nat} (hk : k < 128) : w.cell? ⟨b, k, none⟩ = some (.int .u8 (c.read.getD k 0)) := by
  have := (cel_read h hf).some_ k (.int .u8 (c.read.getD k 0)) (by
    unfold b8s
    rw [List.getElem?_map, List.getElem?_eq_getElem (by rw [hf.1]; exact hk)]
    simp [List.getD, hf.1, hk])
  rw [addr_add, Nat.zero_add] at this
  exact this
theorem cel_byte_durable (h : Sat E w (HP.cel b c * q)) (hf : c.Fine) {k : Nat} (hk : k < 128) : w.cell? ⟨b, 128 + k, none⟩ = some (.int .u8 (c.durable.getD k 0)) := by
  have := (cel_durable h hf).some_ k (.int .u8 (c.durable.getD k 0)) (by
    unfold b8s
    rw [List.getElem?_map, List.getElem?_eq_getElem (by rw [hf.2.1]; exact hk)]
    simp [List.getD, hf.2.1, hk])
  rw [addr_add] at this
  exact this
theorem b8s_set (l : List Int) (k : Nat) (x : Int) : (b8s l).set k (.int .u8 x) = b8s (l.set k x) := by unfold b8s; rw [List.map_set]
theorem cel_set_read (h : Sat E w (HP.cel b c * q)) (hf : c.Fine) {k : Nat} (hk : k < 128) (x : Int) : Sat E (w.setCell ⟨b, k, none⟩ (.int .u8 x)) (HP.cel b { c with read := c.read.set k x } * q) := by
  have h1 : Sat E w (HP.pt b (.cells c.vals.toArray 125) * q) := h
  have h2 := h1.set (i := k) (.int .u8 x)
  have e : c.vals.toArray.setIfInBounds k (.int .u8 x) = ({ c with read := c.read.set k x } : Cel).vals.toArray := by
    rw [List.setIfInBounds_toArray]
    congr 1
    unfold Cel.vals
    rw [List.set_append_left _ _ (by rw [b8s_length, hf.1]; exact hk), b8s_set]
  rw [e] at h2
  exact h2
theorem cel_set_durable (h : Sat E w (HP.cel b c * q)) (hf : c.Fine) {k : Nat} (hk : k < 128) (x : Int) : Sat E (w.setCell ⟨b, 128 + k, none⟩ (.int .u8 x)) (HP.cel b { c with durable := c.durable.set k x } * q) := by
  have h1 : Sat E w (HP.pt b (.cells c.vals.toArray 125) * q) := h
  have h2 := h1.set (i := 128 + k) (.int .u8 x)
  have e : c.vals.toArray.setIfInBounds (128 + k) (.int .u8 x) = ({ c with durable := c.durable.set k x } : Cel).vals.toArray := by
    rw [List.setIfInBounds_toArray]
    congr 1
    unfold Cel.vals
    rw [List.set_append_right _ _ (by rw [b8s_length, hf.1]; omega), b8s_length, hf.1, Nat.add_sub_cancel_left, List.set_append_left _ _ (by rw [b8s_length, hf.2.1]; exact hk), b8s_set]
  rw [e] at h2
  exact h2
end
set_option maxHeartbeats 2000000 in
set_option maxRecDepth 100000 in
theorem disk_rot (E : Env) (q : HP) (d : Nat) (A : Dk) (name : ByteArray) (i at_ mask : Int) (w : World) (hn : name.size ≤ maxLen) (hw : Sat E w (HP.disk d A * q)) :
    Calls Tryd.prog 44 #[.pointer (some ⟨d, 0, none⟩), .string name, .int .i64 i, .int .i64 at_, .int .u8 mask] w fun e w' => e = .returned (.int .i64 (A.rot name i at_ mask).1) ∧ Sat E w' (HP.disk d (A.rot name i at_ mask).2 * q) := by
  obtain ⟨m, es, clock, fs, hv, hd⟩ := hw.disk_open
  have HF : Aside (A.rot name i at_ mask = match A.cel name i with
    | none => (30, A)
    | some c => if at_ < 0 ∨ 128 ≤ at_ then (1, A) else (0, A.set name ((A.at name).set i.toNat (c.rotd at_.toNat mask)))) := ⟨rfl⟩
  rw [← celAt_view hv] at HF
  clear hw
  go_enter Tryd.func44, Tryd.ntmps44
  go_wp2_with fail
  refine (disk_none E _ d _ _ m w (dk_parts hd)).mono ?_
  rintro e w1 ⟨rfl, rfl⟩
  go_wp2_with fail
  refine (disk_at E q d _ _ m es clock fs name i _ hn hv.map hd).mono ?_
  rintro e w2 ⟨rfl, rfl⟩
  rw [cellAt_eq]
  cases hx : celAt fs name i with
  | none =>
    rw [hx] at HF
    have HT : Aside (A.rot name i at_ mask = (30, A) ∧ Sat E w2 (HP.disk d A * q)) := ⟨HF.out, Sat.disk_close hv hd⟩
    clear HF hx hd hv
    go_wp2
    go_ret
    rw [HT.out.1]
    exact ⟨rfl, HT.out.2⟩
  | some x =>
    rw [hx] at HF
    obtain ⟨j, f, k, hj, hname, hik, hk⟩ := celAt_some hx
    have hxf : x.2.Fine := hv.cel_fine (List.mem_of_getElem? hj) (List.mem_of_getElem? hk)
    obtain ⟨r, hr1, -, hr3⟩ := take_cel hv hd hj hk
    have hat : A.at name = f.cs := by
      unfold Dk.at
      rw [← hv.same, ← hname, lkF_at hv.nodup hj]; rfl
    have HD : Aside (Sat E w2 (HP.disk d A * q)) := ⟨Sat.disk_close hv hd⟩
    have HR : Aside (∀ w' c', c'.Fine → Sat E w' (HP.cel x.1 c' * r) → Sat E w' (HP.disk d (A.set name ((A.at name).set i.toNat c')) * q)) := ⟨fun w' c' hc h => by
      have := hr3 w' c' hc h
      rw [hat, hik, Int.toNat_natCast, ← hname]
      exact this⟩
    obtain ⟨bk, c⟩ := x
    dsimp only [Option.map_some] at *
    clear hx hd hv hr3 hj hk hname hik hat
    by_cases h0 : at_ < 0
    · have HT : Aside (A.rot name i at_ mask = (1, A)) := ⟨by rw [HF.out]; simp [h0]⟩
      clear HF hr1 hxf HR
      go_wp2
      go_ret
      rw [HT.out]
      exact ⟨rfl, HD.out⟩
    · by_cases h8 : 128 ≤ at_
      · have HT : Aside (A.rot name i at_ mask = (1, A)) := ⟨by rw [HF.out]; simp [h8]⟩
        clear HF hr1 hxf HR
        go_wp2
        go_ret
        rw [HT.out]
        exact ⟨rfl, HD.out⟩
      · obtain ⟨n, rfl⟩ := Int.eq_ofNat_of_zero_le (Int.not_lt.1 h0)
        have hn8 : n < 128 := by omega
        have HT : Aside (A.rot name i n mask = (0, A.set name ((A.at name).set i.toNat (c.rotd n mask)))) := ⟨by rw [HF.out]; simp only [if_neg (show ¬ ((n : Int) < 0 ∨ 128 ≤ (n : Int)) by omega), Int.toNat_natCast]⟩
        have cw := cel_waits hr1 hxf
        have hn1 : (n : Int) < 128 := by omega
        have hn0 : (0 : Int) ≤ (n : Int) := by omega
        cases hcw : c.waits with
        | true =>
          rw [hcw] at cw
          have g2 := cel_byte_durable hr1 hxf hn8
          have f2 := cel_thaw hr1 (128 + n)
          have h9 := cel_set_durable (hr1.drew) hxf hn8 (xorB (c.durable.getD n 0) mask)
          have HH := Aside.mk (HR.out _ _ (Cel.rotd_fine hxf n mask) (by
            have e : c.rotd n mask = { c with durable := c.durable.set n (xorB (c.durable.getD n 0) mask) } := by unfold Cel.rotd xorAt; rw [if_pos hcw]
            rw [e]; exact h9))
          clear HF HR HD hr1 hxf hcw h9
          generalize c.durable.getD n 0 = y at *
          unfold xorB at HH
          go_wp2
          refine region_R [11] [] (fun _ => True) #[false, false, false, false, false, false, false, false, false, false, false, false] (by kernel_rfl) rfl rfl ?_
          refine wpR_rd 0 #[true, false, false, false, false, false, false, false, false, false, false, false] rfl onlyN_noPanic (by kernel_rfl) (fun K hK => ?_); (go_simp; try go_bits); refine hK _ ?_; clear hK K
          refine wpR_rd 1 #[true, true, false, false, false, false, false, false, false, false, false, false] rfl onlyN_noPanic (by kernel_rfl) (fun K hK => ?_); (go_simp; try go_bits); refine hK _ ?_; clear hK K
          refine wpR_rd 2 #[true, true, true, false, false, false, false, false, false, false, false, false] rfl onlyN_noPanic (by kernel_rfl) (fun K hK => ?_); (go_simp; try go_bits); refine hK _ ?_; clear hK K
          refine wpR_rd 3 #[true, true, true, true, false, false, false, false, false, false, false, false] rfl onlyN_noPanic (by kernel_rfl) (fun K hK => ?_); (go_simp; try go_bits); refine hK _ ?_; clear hK K
          refine wpR_rd 4 #[true, true, true, true, true, false, false, false, false, false, false, false] rfl onlyN_noPanic (by kernel_rfl) (fun K hK => ?_); (go_simp; try go_bits); refine hK _ ?_; clear hK K
          refine wpR_rd 5 #[true, true, true, true, true, true, false, false, false, false, false, false] rfl onlyN_noPanic (by kernel_rfl) (fun K hK => ?_); (go_simp; try go_bits); refine hK _ ?_; clear hK K
          refine wpR_rd 6 #[true, true, true, true, true, true, true, false, false, false, false, false] rfl onlyN_noPanic (by kernel_rfl) (fun K hK => ?_); (go_simp; try go_bits); refine hK _ ?_; clear hK K
          refine wpR_rd 7 #[true, true, true, true, true, true, true, true, false, false, false, false] rfl onlyN_noPanic (by kernel_rfl) (fun K hK => ?_); (go_simp; try go_bits); refine hK _ ?_; clear hK K
          refine wpR_rd 8 #[true, true, true, true, true, true, true, true, true, false, false, false] rfl onlyN_noPanic (by kernel_rfl) (fun K hK => ?_); (go_simp; try go_bits); refine hK _ ?_; clear hK K
          refine wpR_rd 9 #[true, true, true, true, true, true, true, true, true, true, false, false] rfl onlyN_noPanic (by kernel_rfl) (fun K hK => ?_); (go_simp; try go_bits); refine hK _ ?_; clear hK K
          refine wpR_rd 10 #[true, true, true, true, true, true, true, true, true, true, true, false] rfl onlyN_noPanic (by kernel_rfl) (fun K hK => ?_); (go_simp; try go_bits); refine hK _ ?_; clear hK K
          refine wpR_eff #[true, true, true, true, true, true, true, true, true, true, true, true] (i := 11) rfl (by kernel_rfl) (fun K hK => ?_)
          go_simp; refine hK _ _ ?_; clear hK K
          refine wpR_done (by kernel_rfl) ?_ _
          simp only [OnlyN]
          go_wp2
          go_ret
          rw [HT.out]
          exact ⟨rfl, HH.out⟩
        | false =>
          rw [hcw] at cw
          have g2 := cel_byte_read hr1 hxf hn8
          have f2 := cel_thaw hr1 n
          have h9 := (cel_set_read hr1 hxf hn8 (xorB (c.read.getD n 0) mask)).drew
          have hxf1 : ({ c with read := c.read.set n (xorB (c.read.getD n 0) mask) } : Cel).Fine := ⟨List.length_set.trans hxf.1, hxf.2.1, hxf.2.2.1, hxf.2.2.2⟩
          have HX := Aside.mk (And.intro h9 hxf1)
          have HR2 : Aside (∀ w', Sat E w' (HP.cel bk { c with read := c.read.set n (xorB (c.read.getD n 0) mask), durable := c.durable.set n (xorB (c.durable.getD n 0) mask) } * r) → Sat E w' (HP.disk d (A.set name ((A.at name).set i.toNat (c.rotd n mask))) * q)) := ⟨fun w' h => HR.out w' _ (Cel.rotd_fine hxf n mask) (by
            have e : c.rotd n mask = { c with read := c.read.set n (xorB (c.read.getD n 0) mask), durable := c.durable.set n (xorB (c.durable.getD n 0) mask) } := by unfold Cel.rotd xorAt; rw [if_neg (by rw [hcw]; decide)]
            rw [e]; exact h)⟩
          clear HF HR HD hr1 hxf hcw h9 hxf1
          obtain ⟨y, hy⟩ : ∃ y, y = c.read.getD n 0 := ⟨_, rfl⟩
          simp only [← hy] at g2 HX HR2
          clear hy
          unfold xorB at HX
          go_wp2
          refine region_R [11] [] (fun _ => True) #[false, false, false, false, false, false, false, false, false, false, false, false] (by kernel_rfl) rfl rfl ?_
          refine wpR_rd 0 #[true, false, false, false, false, false, false, false, false, false, false, false] rfl onlyN_noPanic (by kernel_rfl) (fun K hK => ?_); (go_simp; try go_bits); refine hK _ ?_; clear hK K
          refine wpR_rd 1 #[true, true, false, false, false, false, false, false, false, false, false, false] rfl onlyN_noPanic (by kernel_rfl) (fun K hK => ?_); (go_simp; try go_bits); refine hK _ ?_; clear hK K
          refine wpR_rd 2 #[true, true, true, false, false, false, false, false, false, false, false, false] rfl onlyN_noPanic (by kernel_rfl) (fun K hK => ?_); (go_simp; try go_bits); refine hK _ ?_; clear hK K
          refine wpR_rd 3 #[true, true, true, true, false, false, false, false, false, false, false, false] rfl onlyN_noPanic (by kernel_rfl) (fun K hK => ?_); (go_simp; try go_bits); refine hK _ ?_; clear hK K
          refine wpR_rd 4 #[true, true, true, true, true, false, false, false, false, false, false, false] rfl onlyN_noPanic (by kernel_rfl) (fun K hK => ?_); (go_simp; try go_bits); refine hK _ ?_; clear hK K
          refine wpR_rd 5 #[true, true, true, true, true, true, false, false, false, false, false, false] rfl onlyN_noPanic (by kernel_rfl) (fun K hK => ?_); (go_simp; try go_bits); refine hK _ ?_; clear hK K
          refine wpR_rd 6 #[true, true, true, true, true, true, true, false, false, false, false, false] rfl onlyN_noPanic (by kernel_rfl) (fun K hK => ?_); (go_simp; try go_bits); refine hK _ ?_; clear hK K
          refine wpR_rd 7 #[true, true, true, true, true, true, true, true, false, false, false, false] rfl onlyN_noPanic (by kernel_rfl) (fun K hK => ?_); (go_simp; try go_bits); refine hK _ ?_; clear hK K
          refine wpR_rd 8 #[true, true, true, true, true, true, true, true, true, false, false, false] rfl onlyN_noPanic (by kernel_rfl) (fun K hK => ?_); (go_simp; try go_bits); refine hK _ ?_; clear hK K
          refine wpR_rd 9 #[true, true, true, true, true, true, true, true, true, true, false, false] rfl onlyN_noPanic (by kernel_rfl) (fun K hK => ?_); (go_simp; try go_bits); refine hK _ ?_; clear hK K
          refine wpR_rd 10 #[true, true, true, true, true, true, true, true, true, true, true, false] rfl onlyN_noPanic (by kernel_rfl) (fun K hK => ?_); (go_simp; try go_bits); refine hK _ ?_; clear hK K
          refine wpR_eff #[true, true, true, true, true, true, true, true, true, true, true, true] (i := 11) rfl (by kernel_rfl) (fun K hK => ?_)
          go_simp; refine hK _ _ ?_; clear hK K
          refine wpR_done (by kernel_rfl) ?_ _
          simp only [OnlyN]
          obtain ⟨h9, hxf1⟩ := HX.out
          obtain ⟨w5, hw5⟩ : ∃ w5, w5 = (w2.setCell ⟨bk, n, none⟩ (.int .u8 (bits .xor .u8 y mask))).drew := ⟨_, rfl⟩
          rw [← hw5] at h9 ⊢
          clear hw5 HX cw g2 f2 
          have g2 := cel_byte_durable h9 hxf1 hn8
          have f2 := cel_thaw h9 (128 + n)
          have h10 := cel_set_durable (h9.drew) hxf1 hn8 (xorB (c.durable.getD n 0) mask)
          have HH := Aside.mk (HR2.out _ h10)
          clear HR2 h9 hxf1 h10
          dsimp only at g2
          generalize c.durable.getD n 0 = y at *
          unfold xorB at HH
          go_wp2
          refine region_R [11] [] (fun _ => True) #[false, false, false, false, false, false, false, false, false, false, false, false] (by kernel_rfl) rfl rfl ?_
          refine wpR_rd 0 #[true, false, false, false, false, false, false, false, false, false, false, false] rfl onlyN_noPanic (by kernel_rfl) (fun K hK => ?_); (go_simp; try go_bits); refine hK _ ?_; clear hK K
          refine wpR_rd 1 #[true, true, false, false, false, false, false, false, false, false, false, false] rfl onlyN_noPanic (by kernel_rfl) (fun K hK => ?_); (go_simp; try go_bits); refine hK _ ?_; clear hK K
          refine wpR_rd 2 #[true, true, true, false, false, false, false, false, false, false, false, false] rfl onlyN_noPanic (by kernel_rfl) (fun K hK => ?_); (go_simp; try go_bits); refine hK _ ?_; clear hK K
          refine wpR_rd 3 #[true, true, true, true, false, false, false, false, false, false, false, false] rfl onlyN_noPanic (by kernel_rfl) (fun K hK => ?_); (go_simp; try go_bits); refine hK _ ?_; clear hK K
          refine wpR_rd 4 #[true, true, true, true, true, false, false, false, false, false, false, false] rfl onlyN_noPanic (by kernel_rfl) (fun K hK => ?_); (go_simp; try go_bits); refine hK _ ?_; clear hK K
          refine wpR_rd 5 #[true, true, true, true, true, true, false, false, false, false, false, false] rfl onlyN_noPanic (by kernel_rfl) (fun K hK => ?_); (go_simp; try go_bits); refine hK _ ?_; clear hK K
          refine wpR_rd 6 #[true, true, true, true, true, true, true, false, false, false, false, false] rfl onlyN_noPanic (by kernel_rfl) (fun K hK => ?_); (go_simp; try go_bits); refine hK _ ?_; clear hK K
          refine wpR_rd 7 #[true, true, true, true, true, true, true, true, false, false, false, false] rfl onlyN_noPanic (by kernel_rfl) (fun K hK => ?_); (go_simp; try go_bits); refine hK _ ?_; clear hK K
          refine wpR_rd 8 #[true, true, true, true, true, true, true, true, true, false, false, false] rfl onlyN_noPanic (by kernel_rfl) (fun K hK => ?_); (go_simp; try go_bits); refine hK _ ?_; clear hK K
          refine wpR_rd 9 #[true, true, true, true, true, true, true, true, true, true, false, false] rfl onlyN_noPanic (by kernel_rfl) (fun K hK => ?_); (go_simp; try go_bits); refine hK _ ?_; clear hK K
          refine wpR_rd 10 #[true, true, true, true, true, true, true, true, true, true, true, false] rfl onlyN_noPanic (by kernel_rfl) (fun K hK => ?_); (go_simp; try go_bits); refine hK _ ?_; clear hK K
          refine wpR_eff #[true, true, true, true, true, true, true, true, true, true, true, true] (i := 11) rfl (by kernel_rfl) (fun K hK => ?_)
          go_simp; refine hK _ _ ?_; clear hK K
          refine wpR_done (by kernel_rfl) ?_ _
          simp only [OnlyN]
          go_wp2
          go_ret
          rw [HT.out]
          exact ⟨rfl, HH.out⟩
end Go.Proofs.YtanlgadijndmaaaDoor
/- dryrotplain.Half: bytes of one file turned, in any way. -/
namespace Go.Proofs.YtanlgadijndmaaaDoor
open Go.RowKit HP
set_option linter.unusedSimpArgs false
set_option linter.unusedVariables false

/-- Turned again and again, bytes of one file alone. -/
inductive RotS (f : ByteArray) : Dk → Dk → Prop
  | refl (A : Dk) : RotS f A A
  | step {A B : Dk} (i a m : Int) : RotS f A B → 0 ≤ m → m ≤ 255 → RotS f A (B.rot f i a m).2
theorem or_range (x : Int) : 0 ≤ bits .or .u8 (IntKind.u8.wrap x) 1 ∧ bits .or .u8 (IntKind.u8.wrap x) 1 ≤ 255 := by
  have hx : 0 ≤ IntKind.u8.wrap x ∧ IntKind.u8.wrap x ≤ 255 := by rw [IntKind.wrap_u8]; omega
  obtain ⟨n, hn⟩ := Int.eq_ofNat_of_zero_le hx.1
  rw [hn] at hx ⊢
  have h := u8_or_nat n 1 (by omega) (by decide)
  have h2 : n ||| 1 < 256 := Nat.or_lt_two_pow (n := 8) (by omega) (by omega)
  have e : bits .or .u8 (n : Int) 1 = ((n ||| 1 : Nat) : Int) := h
  rw [e]
  omega
theorem rot_one (E : Env) (q : HP) (d : Nat) (A B : Dk) (f : ByteArray) (i a m : Int) (w : World) (hn : f.size ≤ maxLen) (hm : 0 ≤ m ∧ m ≤ 255) (h : RotS f A B) (hw : Sat E w (HP.disk d B * q)) :
    Calls Tryd.prog 44 #[.pointer (some ⟨d, 0, none⟩), .string f, .int .i64 i, .int .i64 a, .int .u8 m] w fun e w' => ∃ x C, e = .returned x ∧ RotS f A C ∧ Sat E w' (HP.disk d C * q) :=
  (disk_rot E q d B f i a m w hn hw).mono fun e w' h2 => ⟨_, _, h2.1, h.step i a m hm.1 hm.2, h2.2⟩
set_option maxHeartbeats 2000000 in
set_option maxRecDepth 100000 in
theorem half_ok (E : Env) (q : HP) (d : Nat) (A : Dk) (f : ByteArray) (Al : Option Addr) (l : List Int) (n c : Nat) (w : World) (hf : f.size ≤ maxLen) (hln : l.length = n) (hl : n ≤ maxLen)
    (hq : ∀ E w, Sat E w q → Cells w Al (l.map (Value.int .i64))) (hw : Sat E w (HP.disk d A * q)) :
    Calls Tryd.prog 24 #[.pointer (some ⟨d, 0, none⟩), .string f, .slice Al n c] w fun e w' => e = .returned (.tuple #[]) ∧ ∃ B, RotS f A B ∧ Sat E w' (HP.disk d B * q) := by
  unfold maxLen at hl
  have HQ := Aside.mk (And.intro hq (And.intro hln hf))
  have HF := Aside.mk hw.disk_fine
  have hes := at_small HF.out f
  have HX := Aside.mk (disk_extents E _ d A f w hf hw)
  obtain ⟨ne, hne⟩ : ∃ ne, ne = (A.at f).length := ⟨_, rfl⟩
  rw [← hne] at hes HX
  have HW := Aside.mk hw
  clear hq hw hln hf hne
  have un : IntKind.u64.wrap (ne : Int) = (ne : Int) := by rw [IntKind.wrap_u64]; omega
  go_enter Tryd.func24, Tryd.ntmps24
  go_wp2_with fail
  refine HX.out.mono ?_
  rintro e w1 ⟨rfl, hw1⟩; subst w1
  clear HX
  go_wp2
  go_loopw [14] (fun v14 wr => ∃ (k : Nat) (B : Dk), v14 = .int .i64 k ∧ k ≤ n ∧ Aside (RotS f A B) ∧ Aside (Sat E wr (HP.disk d B * q))) (fun x _ => n - (intOf x).toNat)
  case atStart => exact ⟨0, A, rfl, Nat.zero_le _, ⟨.refl A⟩, HW⟩
  case round =>
    clear HW
    obtain ⟨k, B, rfl, hk, HR, HS⟩ := hrel
    by_cases hlt : k < n
    · have hk1 : (k : Int) < (n : Int) := by omega
      have hk0 : (0 : Int) ≤ (k : Int) := by omega
      have hcl := HQ.out.1 _ _ HS.out.right
      obtain ⟨x, hx⟩ : ∃ x, l[k]? = some x := ⟨_, List.getElem?_eq_getElem (by rw [HQ.out.2.1]; exact hlt)⟩
      have gk : (l.map (Value.int .i64))[k]? = some (.int .i64 x) := by rw [List.getElem?_map, hx]; rfl
      obtain ⟨gL, oL, hAl⟩ : ∃ g o, Al = some ⟨g, o, none⟩ := by
        obtain ⟨a, ha, -⟩ := hcl _ _ gk
        obtain ⟨g, o, rfl⟩ : ∃ g o, a = ⟨g, o, none⟩ := slice_addr hcl ha (List.getElem?_eq_some_iff.1 gk).1
        exact ⟨g, o, ha⟩
      rw [hAl] at hcl
      have ck := hcl.some_ _ _ gk
      rw [addr_add] at ck
      rw [hAl]
      clear hcl gk hx hAl
      by_cases h40 : (40 : Int) ≤ (k : Int)
      · go_wp2
        exact ⟨rfl, .tuple #[], by first | rfl | (unfold results; rw [show Tryd.f24.results = #[] by kernel_rfl]; simp), rfl, B, HR.out, HS.out⟩
      · by_cases hz : ne = 0
        · subst hz
          go_wp2
          exact ⟨rfl, .tuple #[], by first | rfl | (unfold results; rw [show Tryd.f24.results = #[] by kernel_rfl]; simp), rfl, B, HR.out, HS.out⟩
        · have hz1 : ¬ (ne : Int) = 0 := by omega
          go_wp2_with fail
          refine (rot_one E q d A B f _ _ _ _ HQ.out.2.2 (or_range _) HR.out HS.out).mono ?_
          rintro e w2 ⟨y, C, rfl, hc, h2⟩
          have HC := Aside.mk hc
          have H2 := Aside.mk h2
          clear hc h2 ck HS HR
          go_wp2
          go_roundw
          case rel => exact ⟨k + 1, C, by go_num, by omega, HC, H2⟩
          case measure => simp [intOf]; omega
    · have hk1 : ¬ (k : Int) < (n : Int) := by omega
      go_wp2
      exact ⟨rfl, .tuple #[], by first | rfl | (unfold results; rw [show Tryd.f24.results = #[] by kernel_rfl]; simp), rfl, B, HR.out, HS.out⟩
end Go.Proofs.YtanlgadijndmaaaDoor
/- pair.Drop, pair.Need. -/
namespace Go.Proofs.YtanlgadijndmaaaDoor
open Go.RowKit HP
set_option linter.unusedSimpArgs false
set_option linter.unusedVariables false

def dropL (A : Dk) : List ByteArray → Int × Dk
  | [] => (0, A)
  | f :: r => if (A.at f).length = 0 then dropL A r else if (A.remove f).1 = 0 then dropL (A.remove f).2 r else A.remove f
def dropP (A : Dk) (name : ByteArray) : Int × Dk := dropL A (halvesL name)
set_option maxHeartbeats 2000000 in
set_option maxRecDepth 100000 in
theorem pair_drop (E : Env) (q : HP) (d : Nat) (A : Dk) (name : ByteArray) (w : World) (hname : name.size + 2 ≤ maxLen) (hw : Sat E w (HP.disk d A * q)) :
    Calls Tryd.prog 84 #[.pointer (some ⟨d, 0, none⟩), .string name] w fun e w' => e = .returned (.int .i64 (dropP A name).1) ∧ Sat E w' (HP.disk d (dropP A name).2 * q) := by
  have hfa : (name ++ dotA).size ≤ maxLen := by rw [dotA_size]; exact hname
  have hfb : (name ++ dotB).size ≤ maxLen := by rw [dotB_size]; exact hname
  have HF : Aside (halvesL name = [name ++ dotA, name ++ dotB]) := ⟨rfl⟩
  have HW0 := Aside.mk hw
  clear hw
  go_enter Tryd.func84, Tryd.ntmps84
  go_wp2_with fail
  refine (pair_none E q d A _ HW0.out).mono ?_
  rintro e w0 ⟨rfl, h0⟩
  have H0 := Aside.mk h0
  clear h0
  go_wp2_with fail
  refine (pair_halves E _ name _ hname H0.out).mono ?_
  rintro e w1 ⟨rfl, h1⟩
  obtain ⟨fa, hfae⟩ : ∃ fa, fa = name ++ dotA := ⟨_, rfl⟩
  obtain ⟨fb, hfbe⟩ : ∃ fb, fb = name ++ dotB := ⟨_, rfl⟩
  rw [← hfae] at hfa HF ⊢
  rw [← hfbe] at hfb HF ⊢
  clear hfae hfbe
  have H1 := Aside.mk h1
  clear h1
  have i0 : ∀ w, (Instr.index 144 (.agg #[.string fa, .string fb]) (.int .i64 0)).run Tryd.prog w = .ok (.string fa) w := fun w => by kernel_rfl
  have i1 : ∀ w, (Instr.index 144 (.agg #[.string fa, .string fb]) (.int .i64 1)).run Tryd.prog w = .ok (.string fb) w := fun w => by kernel_rfl
  go_wp2
  go_loopw [12] (fun v12 wr => ∃ (h : Nat) (B : Dk), h ≤ 2 ∧ v12 = .int .i64 h ∧ Aside (dropL B ((halvesL name).drop h) = dropP A name) ∧ Aside (Sat E wr (HP.disk d B * q))) (fun i _ => 2 - (intOf i).toNat)
  case atStart => exact ⟨0, A, by omega, rfl, ⟨rfl⟩, H1⟩
  case round =>
    obtain ⟨h, B, hh, rfl, HA, HS⟩ := hrel
    by_cases hlt : h < 2
    · obtain ⟨f, hf, hff, hix⟩ : ∃ f : ByteArray, f.size ≤ maxLen ∧ (halvesL name).drop h = f :: (halvesL name).drop (h + 1) ∧ ∀ w, (Instr.index 144 (.agg #[.string fa, .string fb]) (.int .i64 (h : Int))).run Tryd.prog w = .ok (.string f) w := by
        rw [HF.out]
        rcases Nat.lt_or_ge h 1 with h0 | h0
        · obtain rfl : h = 0 := by omega
          exact ⟨fa, hfa, rfl, i0⟩
        · obtain rfl : h = 1 := by omega
          exact ⟨fb, hfb, rfl, i1⟩
      have hlt2 : (h : Int) < 2 := by omega
      have HD : Aside (dropL B (f :: (halvesL name).drop (h + 1)) = if (B.at f).length = 0 then dropL B ((halvesL name).drop (h + 1)) else if (B.remove f).1 = 0 then dropL (B.remove f).2 ((halvesL name).drop (h + 1)) else B.remove f) := ⟨rfl⟩
      rw [hff, HD.out] at HA
      clear hff HD
      clear i0 i1
      go_wp2_with fail
      refine (disk_extents E q d B f _ hf HS.out).mono ?_
      rintro e w2 ⟨rfl, rfl⟩
      by_cases hz : (B.at f).length = 0
      · rw [if_pos hz] at HA
        rw [hz]
        clear hz
        go_wp2
        go_roundw
        case rel => exact ⟨h + 1, B, by omega, by push_cast; rfl, HA, HS⟩
        case measure => simp [intOf]; omega
      · rw [if_neg hz] at HA
        obtain ⟨m, hm⟩ : ∃ m, m = (B.at f).length := ⟨_, rfl⟩
        rw [← hm] at hz ⊢
        clear hm
        have hz2 : ((m : Int) == 0) = false := by rw [beq_eq_false_iff_ne]; omega
        have hz3 : ¬ (m : Int) = 0 := by omega
        go_wp2_with fail
        refine (disk_remove E q d B f _ hf HS.out).mono ?_
        rintro e w3 ⟨rfl, h3⟩
        have H3 := Aside.mk h3
        clear h3
        by_cases h0 : (B.remove f).1 = 0
        · rw [if_pos h0] at HA
          rw [h0]
          generalize (B.remove f).2 = B2 at *
          clear h0 hz hz2 hz3
          go_wp2
          go_roundw
          case rel => exact ⟨h + 1, B2, by omega, by push_cast; rfl, HA, H3⟩
          case measure => simp [intOf]; omega
        · rw [if_neg h0] at HA
          obtain ⟨ec, hec⟩ : ∃ ec, ec = (B.remove f).1 := ⟨_, rfl⟩
          rw [← hec] at h0 ⊢
          have HE := Aside.mk hec
          have HX := Aside.mk HA.out.symm
          clear hec HA hz hz2 hz3
          go_wp2
          go_ret
          rw [HX.out, HE.out]
          exact ⟨rfl, H3.out⟩
    · have hh2 : h = 2 := by omega
      subst hh2
      rw [HF.out] at HA
      have HX : Aside (dropP A name = (0, B)) := ⟨by rw [← HA.out]; rfl⟩
      clear HA i0 i1
      go_wp2
      go_ret
      rw [HX.out]
      exact ⟨rfl, HS.out⟩
def needI (n : Int) : Int := if n ≤ 0 then 2 else 2 * ((n - 1) / 106 + 1)
end Go.Proofs.YtanlgadijndmaaaDoor
/- slices.Chunk: a slice's pieces come, one behind the other. -/
namespace Go.Proofs.YtanlgadijndmaaaDoor
open Go.RowKit Go.Shelf HP
set_option linter.unusedSimpArgs false
set_option linter.unusedVariables false
attribute [local go_sem] Oper.semAt_some

def chunkN (n : Nat) : Nat := (n + 105) / 106
def chunkM (n k : Nat) : Nat := min 106 (n - 106 * k)
def chunkV (g o n k : Nat) : Value := .slice (some ⟨g, o + 106 * k, none⟩) (chunkM n k) (chunkM n k)
def Keep2 (b1 b2 : Nat) (W W' : World) : Prop := W'.heap[b1]? = W.heap[b1]? ∧ W'.heap[b2]? = W.heap[b2]?
theorem Keep2.refl {b1 b2 : Nat} (W : World) : Keep2 b1 b2 W W := ⟨rfl, rfl⟩
theorem Keep2.trans {b1 b2 : Nat} {W X Y : World} (h : Keep2 b1 b2 W X) (k : Keep2 b1 b2 X Y) : Keep2 b1 b2 W Y := ⟨k.1.trans h.1, k.2.trans h.2⟩
theorem grows_drew (w : World) : w.grownBy w.drew none := ⟨rfl, rfl, rfl, Nat.le_refl _, fun _ _ _ => rfl⟩
set_option maxRecDepth 100000 in
set_option maxHeartbeats 2000000 in
theorem chunk1_in (N : Nat) (hN : 1 ≤ N) (l bS bN : Nat) (A : Option Addr) (g o n c : Nat) (hA : 0 < n → A = some ⟨g, o, none⟩) (hnc : n ≤ c) (hcm : c ≤ maxLen) (hn64 : n ≤ 140737488351232) (J Jx : List Nat → World → Prop)
    (hY : ∀ pre x W, J pre W → pre.length < chunkN n → x < chunkN n → YieldAt Fence.wide (N - 1) Tryd.prog l #[chunkV g o n x] W fun e W' =>
      (e = .returned (.bool true) ∧ J (pre ++ [x]) W' ∧ Keep2 bS bN W W') ∨ (e = .returned (.bool false) ∧ Jx (pre ++ [x]) W'))
    (W : World) (hS : W.cell? ⟨bS, 0, none⟩ = some (.slice A n c)) (hB : W.cell? ⟨bN, 0, none⟩ = some (.int .i64 106)) (h0 : J [] W) (hJ : AbidesFrom W.heap.size J) :
    CallsIn Fence.wide N Tryd.prog 129 #[.func (.yield l) #[] #[], .pointer (some ⟨bS, 0, none⟩), .pointer (some ⟨bN, 0, none⟩)] W fun e W' => (∃ v, e = .returned v) ∧
      ((∃ ys, ys = List.range (chunkN n) ∧ J ys W') ∨ (∃ pre, Jx pre W')) := by
  refine callsIn_of_wp Tryd.func129 rfl trivial ?_ rfl
  simp only [Tryd.ntmps129, List.size_toArray, List.length_cons, List.length_nil, Nat.reduceAdd, Nat.reduceSub, Array.replicate_succ, Array.replicate_zero, List.push_toArray, List.append_toArray, List.nil_append, List.cons_append]
  gi_wp2
  gi_loopw [4] (fun i wr => ∃ k : Nat, k ≤ chunkN n ∧ i = .int .i64 ((106 * k : Nat) : Int) ∧ J (List.range k) wr ∧ Keep2 bS bN W wr) (fun i _ => (106 * chunkN n + 1 - (intOf i).toNat))
  case atStart => exact ⟨0, Nat.zero_le _, rfl, h0, Keep2.refl _⟩
  case round =>
    obtain ⟨k, hk, rfl, hJs, hnx⟩ := hrel
    have hS1 : wr.cell? ⟨bS, 0, none⟩ = some (.slice A n c) := (World.cell?_of_block (w := W) hnx.1).trans hS
    have hB1 : wr.cell? ⟨bN, 0, none⟩ = some (.int .i64 106) := (World.cell?_of_block (w := W) hnx.2).trans hB
    by_cases hlt : k < chunkN n
    · have hkn : 106 * k < n := by unfold chunkN at hlt; omega
      obtain rfl := hA (by omega)
      obtain ⟨j, hj⟩ : ∃ j, j = 106 * k := ⟨_, rfl⟩
      rw [← hj]
      have hjn : j < n := by omega
      have hjn' : (j : Int) < n := by omega
      have hjc : (j : Int) < c := by omega
      have hm : (if ((n - j : Nat) : Int) < 106 then ((n - j : Nat) : Int) else 106) = ((min 106 (n - j) : Nat) : Int) := by split <;> omega
      have hjle : j ≤ n := by omega
      have hcj : ¬ c = j := by omega
      have hlt' := hlt
      have HK : Aside (k < chunkN n) := ⟨hlt⟩
      clear hlt'
      have HJ := Aside.mk hj
      have HM := Aside.mk hm
      have HY := Aside.mk hY
      clear hj hm hkn hA hlt hS hB h0 hY
      gi_wp2
      refine wpIn_wide.2 ?_
      refine region_R [] [] (fun _ => True) #[false, false, false, false, false, false, false] (by kernel_rfl) rfl rfl ?_
      refine wpR_rd 0 #[true, false, false, false, false, false, false] rfl onlyN_noPanic (by kernel_rfl) (fun K hK => ?_); (go_simp; try go_bits); refine hK _ ?_; clear hK K
      refine wpR_rd 1 #[true, true, false, false, false, false, false] rfl onlyN_noPanic (by kernel_rfl) (fun K hK => ?_); (go_simp; try go_bits); refine hK _ ?_; clear hK K
      refine wpR_rd 2 #[true, true, true, false, false, false, false] rfl onlyN_noPanic (by kernel_rfl) (fun K hK => ?_); (go_simp; try go_bits); refine hK _ ?_; clear hK K
      refine wpR_rd 3 #[true, true, true, true, false, false, false] rfl onlyN_noPanic (by kernel_rfl) (fun K hK => ?_); (go_simp; try go_bits); refine hK _ ?_; clear hK K
      refine wpR_rd 4 #[true, true, true, true, true, false, false] rfl onlyN_noPanic (by kernel_rfl) (fun K hK => ?_); (go_simp; try go_bits); refine hK _ ?_; clear hK K
      refine wpR_rd 5 #[true, true, true, true, true, true, false] rfl onlyN_noPanic (by kernel_rfl) (fun K hK => ?_); (go_simp; try go_bits); refine hK _ ?_; clear hK K
      refine wpR_rd 6 #[true, true, true, true, true, true, true] rfl onlyN_noPanic (by kernel_rfl) (fun K hK => ?_); (go_simp; try go_bits); refine hK _ ?_; clear hK K
      refine wpR_done (by kernel_rfl) ?_ _
      simp only [OnlyN]
      rw [HM.out]
      obtain ⟨m, hm⟩ : ∃ m, m = min 106 (n - j) := ⟨_, rfl⟩
      rw [← hm]
      have hm0 : 0 < m := by omega
      have hmn : j + m ≤ n := by omega
      have hmc : (j : Int) + m ≤ c := by omega
      have hjd := hJ _ _ _ none hJs (grows_drew wr) (fun r h => by cases h)
      obtain ⟨fn, tmps, assign, body, hy, hR⟩ := HY.out (List.range k) k wr.drew hjd (by rw [List.length_range]; exact HK.out) HK.out
      have ev : chunkV g o n k = .slice (some ⟨g, o + j, none⟩) m m := by unfold chunkV chunkM; rw [← HJ.out, hm]
      rw [ev] at hy
      have hnd : Keep2 bS bN W wr.drew := hnx
      have HN := Aside.mk hnd
      have hjm1 : j ≤ j + m := by omega
      have hjm2 : j + m ≤ c := by omega
      have ejm : j + m - j = m := by omega
      clear hJs hjd HM hm ev hnx hnd
      gi_wp2
      refine hR.mono ?_
      have hn64' : (n : Int) ≤ 140737488351232 := by omega
      rintro ee W3 (⟨rfl, hJ3, hk3⟩ | ⟨rfl, hJx3⟩)
      · have hn1 := HN.out.trans hk3
        have hB3 : W3.cell? ⟨bN, 0, none⟩ = some (.int .i64 106) := (World.cell?_of_block (w := wr.drew) hk3.2).trans hB1
        have HR := Aside.mk (And.intro hn1 hJ3)
        clear hS1 hB1 hy hR hk3 hn1 hJ3
        gi_wp2
        go_roundw
        case rel => exact ⟨k + 1, by have := HK.out; omega, by rw [HJ.out]; push_cast; congr 1, by rw [List.range_succ]; exact HR.out.2, HR.out.1⟩
        case measure =>
          have := HK.out
          have := HJ.out
          simp [intOf]
          omega
      · clear hy hR
        gi_wp2
        refine bodyPost_ret (results_none rfl _ _ _) rfl ?_
        exact ⟨⟨_, rfl⟩, .inr ⟨_, hJx3⟩⟩
    · have hkc : k = chunkN n := by omega
      have hge : ¬ (((106 * k : Nat) : Int) < (n : Int)) := by unfold chunkN at hkc; omega
      have HX : Aside (∃ ys, ys = List.range (chunkN n) ∧ J ys wr) := ⟨⟨_, rfl, by rw [← hkc]; exact hJs⟩⟩
      obtain ⟨j, hj⟩ : ∃ j, j = 106 * k := ⟨_, rfl⟩
      rw [← hj] at hge ⊢
      clear hkc hj hY hA hJs hnx
      gi_wp2
      go_end0
      exact ⟨⟨_, rfl⟩, .inl (by obtain ⟨ys, rfl, h⟩ := HX.out; exact h)⟩
theorem chunk_stops (N : Nat) (hN : 1 ≤ N) (bS bN : Nat) (A : Option Addr) (g o n c : Nat) (hA : 0 < n → A = some ⟨g, o, none⟩) (hnc : n ≤ c) (hcm : c ≤ maxLen) (hn64 : n ≤ 140737488351232) (w : World) (hbS : bS < w.heap.size) (hbN : bN < w.heap.size)
    (hS : w.cell? ⟨bS, 0, none⟩ = some (.slice A n c)) (hB : w.cell? ⟨bN, 0, none⟩ = some (.int .i64 106)) :
    SeqStopsK Fence.wide N Tryd.prog 129 #[.pointer (some ⟨bS, 0, none⟩), .pointer (some ⟨bN, 0, none⟩)] (fun x : { x : Nat // x < chunkN n } => #[chunkV g o n x.1]) (Keep2 bS bN)
      (fun ys => ys.map (·.1) = List.range (chunkN n)) (fun _ => True) (chunkN n) w := fun l J Jx W hW hJ hJx hY h0 => by
  have hS' := (hW.cell (p := ⟨bS, 0, none⟩) hbS).trans hS
  have hB' := (hW.cell (p := ⟨bN, 0, none⟩) hbN).trans hB
  refine (chunk1_in N hN l bS bN A g o n c hA hnc hcm hn64 (fun ys W => ∃ zs : List { x : Nat // x < chunkN n }, zs.map (·.1) = ys ∧ J zs W) (fun ys W => ∃ zs : List { x : Nat // x < chunkN n }, zs.map (·.1) = ys ∧ Jx zs W) ?_ W hS' hB' ⟨[], rfl, h0⟩ ?_).mono ?_
  · rintro pre x W1 ⟨zs, rfl, hj⟩ hl hx
    obtain ⟨fn, tmps, assign, body, hy, hR⟩ := hY zs ⟨x, hx⟩ W1 hj (by simpa using hl)
    refine ⟨fn, tmps, assign, body, hy, hR.mono ?_⟩
    rintro e W' (⟨rfl, h1, h2⟩ | ⟨rfl, h1⟩)
    · exact .inl ⟨rfl, ⟨_, by simp, h1⟩, h2⟩
    · exact .inr ⟨rfl, ⟨_, by simp, h1⟩⟩
  · rintro s W1 W2 row ⟨zs, hz, hj⟩ hg hr
    exact ⟨zs, hz, hJ _ _ _ _ hj hg hr⟩
  · rintro e W' ⟨he, ⟨ys, rfl, zs, hz, hj⟩ | ⟨pre, zs, hz, hj⟩⟩
    · exact ⟨he, .inl ⟨zs, hz, hj⟩⟩
    · exact ⟨he, .inr ⟨zs, trivial, hj⟩⟩
set_option maxHeartbeats 1000000 in
set_option maxRecDepth 100000 in
theorem chunk_ok (E : Env) (q : HP) (A : Option Addr) (n c : Nat) (w : World) (hw : Sat E w q) :
    Calls Tryd.prog 86 #[.slice A n c, .int .i64 106] w fun e w' => ∃ bS, e = .returned (.func (.func 129) #[] #[.pointer (some ⟨bS, 0, none⟩), .pointer (some ⟨bS + 1, 0, none⟩)]) ∧
      Sat E w' (HP.pt bS (.cells #[.slice A n c] 52) * (HP.pt (bS + 1) (.cells #[.int .i64 106] 3) * q)) := by
  have h1 := ((hw.alloc (.cells #[.slice A n c] 52)).alloc (.cells #[.int .i64 106] 3)).s2
  rw [show (w.alloc (.cells #[.slice A n c] 52)).heap.size = w.heap.size + 1 by simp] at h1
  have H1 := Aside.mk h1
  clear h1 hw
  go_enter Tryd.func86, Tryd.ntmps86
  go_wp2
  go_ret
  exact ⟨w.heap.size, rfl, H1.out⟩
end Go.Proofs.YtanlgadijndmaaaDoor
/- slices.AppendSeq and Collect over slices.Chunk. -/
namespace Go.Proofs.YtanlgadijndmaaaDoor
open Go.RowKit Go.Shelf HP
set_option linter.unusedSimpArgs false
set_option linter.unusedVariables false
attribute [local go_sem] Oper.semAt_some

theorem slSS : SlTy Tryd.prog 73 52 (.slice none 0 0) 1 24 := ⟨Tryd.underlying73, by kernel_rfl, rfl, by decide⟩
/-- What has been gathered: a box with a slice of an own array. -/
def HP.gath (bb : Nat) (l : List Value) : HP := HP.ex fun v => HP.pt bb (.cells #[v] 73) * HP.row 52 1 v l.length l
theorem HP.gath_solid {bb B : Nat} (h : bb < B) (l : List Value) : HP.Solid B (HP.gath bb l) := by
  rintro k ⟨v, hk⟩
  exact (HP.Solid.mul (HP.Solid.pt_below h _) ((HP.Celled.row _ _ _ _ _).solid B)) k hk
set_option maxHeartbeats 2000000 in
set_option maxRecDepth 100000 in
theorem appendSeq_ok (E : Env) (q : HP) (bS bN : Nat) (A : Option Addr) (g o n c : Nat) (w : World) (hA : 0 < n → A = some ⟨g, o, none⟩) (hnc : n ≤ c) (hcm : c ≤ maxLen) (hn64 : n ≤ 140737488351232)
    (hw : Sat E w (HP.pt bS (.cells #[.slice A n c] 52) * (HP.pt bN (.cells #[.int .i64 106] 3) * q))) :
    Calls Tryd.prog 128 #[.slice none 0 0, .func (.func 129) #[] #[.pointer (some ⟨bS, 0, none⟩), .pointer (some ⟨bN, 0, none⟩)]] w fun e w' => ∃ v, e = .returned v ∧
      Sat E w' (HP.row 52 1 v (chunkN n) ((List.range (chunkN n)).map (chunkV g o n)) * (HP.pt bS (.cells #[.slice A n c] 52) * (HP.pt bN (.cells #[.int .i64 106] 3) * q))) := by
  obtain ⟨q0, hq0⟩ : ∃ q0, q0 = HP.pt bS (.cells #[.slice A n c] 52) * (HP.pt bN (.cells #[.int .i64 106] 3) * q) := ⟨_, rfl⟩
  have hk0 : ∀ E1 W p, Sat E1 W (p * q0) → W.heap[bS]? = some (.cells #[.slice A n c] 52) ∧ W.heap[bN]? = some (.cells #[.int .i64 106] 3) := fun E1 W p h => by
    rw [hq0] at h
    exact ⟨h.s2.get, h.s3.get⟩
  rw [← hq0] at hw ⊢
  clear hq0
  refine calls_of_wp_marks Tryd.func128 rfl ?_
  simp only [Tryd.ntmps128, List.size_toArray, List.length_cons, List.length_nil, Nat.reduceAdd, Nat.reduceSub, Array.replicate_succ, Array.replicate_zero, List.push_toArray, List.append_toArray, List.nil_append, List.cons_append]
  have h1 := (hw.alloc (.cells #[.slice none 0 0] 73))
  have hl1 : bS < w.heap.size := (Array.getElem?_eq_some_iff.1 (hk0 _ _ HP.emp (by rw [HP.emp_mul]; exact hw)).1).1
  have hl2 : bN < w.heap.size := (Array.getElem?_eq_some_iff.1 (hk0 _ _ HP.emp (by rw [HP.emp_mul]; exact hw)).2).1
  have hsz : (w.alloc (.cells #[.slice none 0 0] 73)).heap.size = w.heap.size + 1 := by simp
  have h2 : Sat E (w.alloc (.cells #[.slice none 0 0] 73)) (HP.gath w.heap.size [] * q0) := Sat.ex_intro (f := fun v => HP.pt w.heap.size (.cells #[v] 73) * HP.row 52 1 v 0 []) (.slice none 0 0) ((h1.row_nil 52 1 none).perm (by ac_rfl))
  clear h1
  go_wp2
  generalize World.alloc w _ = w1 at *
  generalize w.heap.size = bb at *
  refine wp_range_sat (α := { x : Nat // x < chunkN n }) rfl (enters_of Tryd.func129 (by kernel_rfl) rfl)
    (chunk_stops 19 (by omega) bS bN A g o n c hA hnc hcm hn64 w1 (by omega) (by omega) (cell_of_row _ _ 0 _ _ _ (hk0 _ _ _ h2).1) (cell_of_row _ _ 0 _ _ _ (hk0 _ _ _ h2).2)) (fun h k => h.trans k) (fun W l o o' hl ho h1 _ => ⟨putObj_heap_ne W l o' bS (by omega), putObj_heap_ne W l o' bN (by omega)⟩)
    (fun E1 E2 W W' p p' h1 h2 => ⟨(hk0 _ _ _ h2).1.trans (hk0 _ _ _ h1).1.symm, (hk0 _ _ _ h2).2.trans (hk0 _ _ _ h1).2.symm⟩) (fun _ => rfl)
    (fun pre => HP.gath bb (pre.map fun x => chunkV g o n x.1)) (fun pre => HP.gath_solid (by omega) _) h2
    (fun x a' W => a' = { tmps := #[.slice none 0 0, .func (.func 129) #[] #[.pointer (some ⟨bS, 0, none⟩), .pointer (some ⟨bN, 0, none⟩)], .pointer (some ⟨bb, 0, none⟩), undef, .slice none 0 0, chunkV g o n x.1, .func (.func 129) #[] #[.pointer (some ⟨bS, 0, none⟩), .pointer (some ⟨bN, 0, none⟩)], chunkV g o n x.1, undef, undef, undef, undef, undef], defers := [] }) ?hAx ?assign ?body ?done
  case hAx =>
    rintro x a' s W W' row rfl hg hr
    rfl
  case assign =>
    intro l x W K' hsz hK'
    clear hk0 h2 hw
    generalize chunkV g o n x.1 = cv at *
    gi_wp2
    exact hK' _ _ (Below.refl _ _) rfl
  case body =>
    rintro E' q' l pre x a' W hqq hI rfl hpre
    clear hqq h2 hw hk0
    obtain ⟨v, hI⟩ := hI.ex_elim
    have hI2 : Sat E' W (HP.row 52 1 v (pre.map fun x => chunkV g o n x.1).length (pre.map fun x => chunkV g o n x.1) * (HP.pt bb (.cells #[v] 73) * q')) := hI.perm (by ac_rfl)
    have b0 := hI2.s2.cell1
    have hpl : (pre.map fun x => chunkV g o n x.1).length = pre.length := List.length_map _
    have hN : chunkN n ≤ 1400000000000 := by unfold chunkN; omega
    have HX : Aside ((pre ++ [x]).map (fun x => chunkV g o n x.1) = (pre.map fun x => chunkV g o n x.1) ++ [chunkV g o n x.1]) := ⟨by rw [List.map_append]; rfl⟩
    have hone : (chunkV g o n x.1).oneCell' = true := rfl
    have hcv : ∃ A' m', chunkV g o n x.1 = .slice A' m' m' := ⟨_, _, rfl⟩
    generalize hL : (pre.map fun x => chunkV g o n x.1) = L at *
    generalize chunkV g o n x.1 = cv at *
    have HI := Aside.mk (And.intro hI2 (And.intro hone (And.intro hpl hpre)))
    obtain ⟨Ac, mc, rfl⟩ := hcv
    clear hI hI2 hone hpl hpre hL
    gi_wp2_with (gi_at_builtin; go_loud (refine wpListIn_append_new slSS rfl rfl rfl rfl HI.out.1 rfl (by simp [HI.out.2.1]) (by rw [HI.out.2.2.1]; unfold maxLen; have := HI.out.2.2.2; omega) (by rw [HI.out.2.2.1]; have := HI.out.2.2.2; omega) (fun v4 w4 hw4 => ?_); obtain ⟨A4, c4, rfl, -, -⟩ := hw4.row_slice; have b4 := hw4.s2.cell1; have t4 := hw4.s2.thaw 0; have HW4 := Aside.mk hw4; clear hw4))
    show Sat E' _ _
    rw [HX.out]
    have hlen : (L ++ [Value.slice Ac mc mc]).length = L.length + 1 := by rw [List.length_append]; rfl
    refine Sat.ex_intro (f := fun v => HP.pt bb (.cells #[v] 73) * HP.row 52 1 v (L ++ [Value.slice Ac mc mc]).length (L ++ [Value.slice Ac mc mc])) (Value.slice A4 (L.length + 1) c4) ?_
    rw [hlen]
    exact (HW4.out.s2.set1 (Value.slice A4 (L.length + 1) c4)).perm (by ac_rfl)
  case done =>
    intro D xs W hxs hI
    have hmap : (xs.map fun x => chunkV g o n x.1) = (List.range (chunkN n)).map (chunkV g o n) := by
      have hxs : xs.map (·.1) = List.range (chunkN n) := hxs
      rw [← hxs, List.map_map]
      rfl
    rw [hmap] at hI
    have hlen : ((List.range (chunkN n)).map (chunkV g o n)).length = chunkN n := by rw [List.length_map, List.length_range]
    obtain ⟨v, h5⟩ := hI.s2.ex_elim
    rw [hlen] at h5
    obtain ⟨L, hL⟩ : ∃ L, L = (List.range (chunkN n)).map (chunkV g o n) := ⟨_, rfl⟩
    rw [← hL] at h5
    have HL := Aside.mk hL
    clear hL hlen
    have h6 : Sat E W (HP.pt D (.deferred (some [])) * (HP.pt bb (.cells #[v] 73) * (HP.row 52 1 v (chunkN n) L * q0))) := h5.perm (by ac_rfl)
    have h7 : Sat E W (HP.row 52 1 v (chunkN n) L * (HP.pt D (.deferred (some [])) * (HP.pt bb (.cells #[v] 73) * q0))) := h5.perm (by ac_rfl)
    obtain ⟨A5, c5, rfl, -, -⟩ := h7.row_slice
    have b0 := h6.s2.cell1
    have hD := h6.get
    have HF := Aside.mk (And.intro h6 hD)
    clear hI h5 h6 h7 hD hmap hxs h2 hk0 hw
    go_wp2
    refine marks_ret rfl HF.out.2 (fun w => results_tmp rfl _ _ _) ⟨_, rfl, ?_⟩
    rw [← HL.out]
    exact ((HF.out.1).putDef (.deferred none)).right.right
set_option maxHeartbeats 1000000 in
set_option maxRecDepth 100000 in
theorem collect_ok (E : Env) (q : HP) (bS bN : Nat) (A : Option Addr) (g o n c : Nat) (w : World) (hA : 0 < n → A = some ⟨g, o, none⟩) (hnc : n ≤ c) (hcm : c ≤ maxLen) (hn64 : n ≤ 140737488351232)
    (hw : Sat E w (HP.pt bS (.cells #[.slice A n c] 52) * (HP.pt bN (.cells #[.int .i64 106] 3) * q))) :
    Calls Tryd.prog 85 #[.func (.func 129) #[] #[.pointer (some ⟨bS, 0, none⟩), .pointer (some ⟨bN, 0, none⟩)]] w fun e w' => ∃ v, e = .returned v ∧
      Sat E w' (HP.row 52 1 v (chunkN n) ((List.range (chunkN n)).map (chunkV g o n)) * q) := by
  have HW := Aside.mk (And.intro hw hA)
  clear hw hA
  go_enter Tryd.func85, Tryd.ntmps85
  go_wp2_with fail
  refine (appendSeq_ok E q bS bN A g o n c _ HW.out.2 hnc hcm hn64 HW.out.1).mono ?_
  rintro e w1 ⟨v, rfl, h1⟩
  obtain ⟨A1, c1, rfl, -, -⟩ := h1.row_slice
  have H1 := Aside.mk h1.drop2.drop2
  clear h1
  go_wp2
  go_ret
  exact ⟨_, rfl, H1.out⟩
end Go.Proofs.YtanlgadijndmaaaDoor
