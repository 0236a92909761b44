/- Pages (layer 22): Keep, New. -/
import Derived.Test.YtdbiebnnogjccaaGreatDoorGf
namespace Go.Proofs.YtdbiebnnogjccaaGreatDoor
open Go.RowKit Go.Maps
theorem IlAt.frN {S : Nat → Prop} {w w' : World} {b off : Nat} {l : List Int} (h : IlAt w b off l) (hf : Fr S w w') (hs : l ≠ [] → ¬ S b) : IlAt w' b off l := by
  by_cases hl : l = []
  · subst hl
    exact ⟨fun h => absurd rfl h, fun i h => absurd h (by simp)⟩
  · have hlt := h.lt hl
    exact ⟨fun _ => Nat.lt_of_lt_of_le hlt hf.size, fun i hi => by rw [hf.cell hlt (hs hl)]; exact h.at' i hi⟩
theorem SlIl.frN {S : Nat → Prop} {w w' : World} {v : Value} {l : List Int} (h : SlIl w v l) (hf : Fr S w w') (hs : l ≠ [] → ∀ b, v.ownBlock = some b → ¬ S b) : SlIl w' v l := by
  rcases h with h | ⟨b, off, cap, e, hc, h⟩
  · exact .inl h
  · exact .inr ⟨b, off, cap, e, hc, h.frN hf fun hne => hs hne b (by rw [e]; rfl)⟩
theorem SlIl.blk_lt {w : World} {v : Value} {l : List Int} (h : SlIl w v l) (hl : l ≠ []) {b : Nat} (hb : v.ownBlock = some b) : b < w.heap.size := by
  rcases h with ⟨rfl, e⟩ | ⟨b', off, cap, e, hc, h⟩
  · exact absurd e hl
  · rw [e] at hb
    have hb : some b' = some b := hb
    injection hb with hb
    subst hb
    exact h.lt hl
/-- Behind a keeping: another map, or nothing. -/
def KeepB (p g mb cb : Nat) (n : Int) (lg k : Nat) (L : List Int) (d : Dk) (w : World) (e : Ending) (w' : World) : Prop :=
  (inL k L = true ∧ ∃ M, e = .returned (.int .i64 0) ∧ PgC w' p M g mb cb n lg (keepL k L) d ∧ w.heap.size ≤ M ∧ Fr (fun b => b = p) w w') ∨ (inL k L = false ∧ e = .returned (.int .i64 1) ∧ Below w.heap.size w w')
/-- Behind a keeping. -/
def KeepP (S : Nat → Prop) (p : Nat) (n : Int) (lg : Nat) (r : List Int × Int) (d : Dk) (w : World) (e : Ending) (w' : World) : Prop :=
  ∃ S', e = .returned (.int .i64 r.2) ∧ PgAt w' S' p n lg r.1 d ∧ Fr S w w' ∧ ∀ b, S' b → S b ∨ w.heap.size ≤ b
section
variable {w : World} {p pm g mb cb : Nat} {n : Int} {lg : Nat} {l : List Int} {d : Dk} {S : Nat → Prop}
/-- A fresh map stands in the pager. -/
theorem PgB.remap {w1 : World} {M k : Nat} {mv : Value} (h : PgB w1 p g mb cb n lg mv k d) (hM : w1.heap[M]? = some (.map #[] 0)) (hS : ¬ (DkS g mb cb M ∨ M = p)) : PgC (w1.setCell ⟨p, 5, none⟩ (.map (some M))) p M g mb cb n lg (List.replicate k 0) d := by
  have hf := fr_set (S := fun b => b = p) (w := w1) rfl 5 (.map (some M))
  refine ⟨by rw [blk_set h.blk]; simp [pgCells], ?_, h.dsk.fr hf (fun e => h.pS (.inl e.symm)) (fun e => h.pS (.inr (.inl e.symm))) (fun e => h.pS (.inr (.inr e.symm))) (fun b off n c e => by cases e), h.ok, h.dn, by rw [List.length_replicate]; exact h.len, goodL_rep _, h.n32, h.n40, h.nl, h.pS, fun e => hS (.inl e), fun e => hS (.inr e.symm)⟩
  have hm : MapI w1 M 0 (fun _ => 0) := ⟨_, ⟨#[], 0, hM, ⟨by simp, MapKept.stamped_empty 0, by simp⟩, Nat.le_refl _, rfl⟩, fun i _ => ⟨rfl, fun h => absurd rfl h⟩⟩
  exact ((hm.mono (Nat.zero_le _)).congr fun i => (kindL_rep _ i).symm).fr hf (fun e => hS (.inr e))
set_option maxRecDepth 20000 in
set_option maxHeartbeats 4000000 in
theorem pager_KeepB {mv : Value} {k : Nat} (v : Value) (L : List Int) (hL : L.length ≤ 65536) (w : World) (h : PgB w p g mb cb n lg mv k d) (hv : SlIl w v L) (hvp : L ≠ [] → ∀ b, v.ownBlock = some b → b ≠ p) :
    Calls Tryz.prog 43 #[.pointer (some ⟨p, 0, none⟩), v] w (KeepB p g mb cb n lg k L d w) := by
  obtain ⟨w1, hw1⟩ : ∃ w1, w1 = w.alloc (.cells #[.pointer (some ⟨p, 0, none⟩)] 66) := ⟨_, rfl⟩
  have B1 : Hid (Below w.heap.size w w1) := by show Below _ _ _; rw [hw1]; exact below_a1 _ _
  have H1 := Lib.hid (h.below B1.out)
  have V1 := Lib.hid (hv.below B1.out)
  have SZ : Hid (w1.heap.size = w.heap.size + 1) := by show _ = _; rw [hw1]; simp
  have Q1 : w1.heap[w.heap.size]? = some (.cells #[.pointer (some ⟨p, 0, none⟩)] 66 (0, 0)) := by rw [hw1]; exact blk_new _ _
  have VP := Lib.hid hvp
  have LS : Hid (∀ b, DkS g mb cb b ∨ b = p → b < w.heap.size) := by
    rintro b ((rfl | rfl | rfl) | rfl)
    · exact h.dsk.lt
    · exact h.dsk.hm.lt
    · exact h.dsk.hc.lt
    · exact blk_lt h.blk
  have VL : Hid (∀ hl : L ≠ [], ∀ b, v.ownBlock = some b → b < w.heap.size) := fun hl b hb => hv.blk_lt hl hb
  have CF := Lib.hid (has_ints 104 #[.pointer (some ⟨w.heap.size, 0, none⟩)] (enters_of Tryz.func104 (by kernel_rfl) rfl) (fun x => !isP k x) v L (by omega) w1 V1.out (fun x _ => keep_1 x w.heap.size w1 H1.out (blk_cell Q1 0)))
  rw [inL_any] at CF
  have HW1 := Lib.hid hw1
  have hc := blk_cell Q1
  obtain ⟨pv, cv, rfl, _⟩ := hv.form
  have F0 : Hid (Fr (fun b => b = p) w w1) := Fr.of_below B1.out
  by_cases hin : inL k L = true
  · have HIN := Lib.hid hin
    have INB := Lib.hid (inL_iff.1 hin)
    rw [hin] at CF
    have hmm := @run_makeMap Tryz.prog
    obtain ⟨w2, hw2⟩ : ∃ w2, w2 = w1.alloc (.map #[] 0) := ⟨_, rfl⟩
    have B2 : Hid (Below w1.heap.size w1 w2) := by show Below _ _ _; rw [hw2]; exact below_a1 _ _
    have M2 : w2.heap[w1.heap.size]? = some (.map #[] 0) := by rw [hw2]; exact blk_new _ _
    have H2 := H1.out.below B2.out
    have hM : ¬ (DkS g mb cb w1.heap.size ∨ w1.heap.size = p) := fun e => by have := LS.out _ e; have := SZ.out; omega
    have H3 := Lib.hid (H2.remap M2 hM)
    obtain ⟨M, hMM⟩ : ∃ M, M = w1.heap.size := ⟨_, rfl⟩
    have MB : Hid (w.heap.size ≤ M) := by show _ ≤ _; rw [hMM]; exact B1.out.size
    rw [← hMM] at H3 hM
    have hM' := Lib.hid hM
    have H2' := H1.out.below (below_a1 w1 (.map #[] 0))
    have hpc := blk_cell H2'.blk
    have hpf := blk_frozen H2'.blk
    have hq2 := blk_cell (blk_below Q1 B2.out)
    unfold pgCells at hpc
    have HW2 := Lib.hid hw2
    have HMM := Lib.hid hMM
    have S2 : Hid (w2.heap.size = M + 1) := by show _ = _; rw [hw2, hMM]; simp
    have Q2 := Lib.hid (blk_below Q1 B2.out)
    have V3 : Hid (SlIl (w2.setCell ⟨p, 5, none⟩ (.map (some M))) (.slice pv L.length cv) L) := (V1.out.below B2.out).frN (fr_set (S := fun b => b = p) rfl 5 _) (fun hl b hb => VP.out hl b hb)
    have F3 : Hid (Fr (fun b => b = p) w (w2.setCell ⟨p, 5, none⟩ (.map (some M)))) := (F0.out.trans (Fr.of_below B2.out)).trans (fr_set (S := fun b => b = p) rfl 5 _)
    have Q3 : Hid ((w2.setCell ⟨p, 5, none⟩ (.map (some M))).heap[w.heap.size]? = some (.cells #[.pointer (some ⟨p, 0, none⟩)] 66 (0, 0))) := by
      show _ = _
      rw [blk_set_far Q2.out (fun e => by have := LS.out p (.inr rfl); simp at e; omega)]
    have QN : Hid (w.heap.size ≠ p ∧ w.heap.size ≠ M) := by
      have := LS.out p (.inr rfl)
      have := SZ.out
      exact ⟨by omega, by rw [hMM]; omega⟩
    have MAXL : Hid (k ≤ 4096) := by show _ ≤ _; have := h.len; have := h.n40; omega
    clear h hv hvp Q1 hw1 hw2 hMM hM F0 M2 H2 H2' hq2 hin B2
    go_enter Tryz.func43, Tryz.ntmps43
    go_wp2_with fail
    rw [← HW1.out]
    refine CF.out.mono ?_; rintro e w3 ⟨rfl, rfl⟩
    go_upto_region 4 with (fail)
    rw [← HW2.out, ← HMM.out]
    obtain ⟨w4, hw4⟩ : ∃ z, z = w2.setCell ⟨p, 5, none⟩ (.map (some M)) := ⟨_, rfl⟩
    rw [← hw4] at H3 V3 F3 Q3 ⊢
    clear hw4 hc hpc hpf
    go_wp2_with fail
    go_loopw [20] (fun c wr => ∃ i : Nat, i ≤ L.length ∧ c = .int .i64 i ∧ PgC wr p M g mb cb n lg (keepL k (L.take i)) d ∧ SlIl wr (.slice pv L.length cv) L ∧ wr.heap[w.heap.size]? = some (.cells #[.pointer (some ⟨p, 0, none⟩)] 66 (0, 0)) ∧ Fr (fun b => b = p ∨ b = M) w wr) (fun c _ => L.length - (intOf c).toNat)
    case atStart => exact ⟨0, Nat.zero_le _, rfl, H3.out, V3.out, Q3.out, F3.out.mono fun b hb => .inl hb⟩
    case round =>
      clear H3 V3 F3 Q3
      obtain ⟨i, hik, rfl, hH, hV, hQ, hF⟩ := hrel
      have H4 := Lib.hid hH; have V4 := Lib.hid hV; have Q4 := Lib.hid hQ; have F4 := Lib.hid hF
      have hpc := blk_cell hH.blk
      unfold pgCells at hpc
      have hqc := blk_cell hQ
      clear hH hV hQ hF
      have MX := MAXL.out
      by_cases hlt : i < L.length
      · have hi : (i : Int) < (L.length : Int) := by omega
        have hi0 : (0 : Int) ≤ (i : Int) := by omega
        have v1 : IntKind.i64.wrap ((i : Int) + 1) = (i : Int) + 1 := IntWalk.i64_in _ (by omega)
        obtain ⟨b, off, hp, hA⟩ := SlIl.atN rfl V4.out hlt
        subst hp
        have c0 := hA.at' i hlt
        have xb := INB.out L[i] (List.getElem_mem hlt)
        have TK : Hid (keepL k (L.take (i + 1)) = setL (keepL k (L.take i)) L[i] 1) := by show _ = _; rw [List.take_succ_eq_append_getElem hlt, keepL_snoc]
        obtain ⟨x, hx⟩ : ∃ x, x = L[i] := ⟨_, rfl⟩
        rw [← hx] at c0 xb TK
        have wx : wf64 x := wf64_of (by omega) (by omega)
        have KL : Hid ((keepL k (L.take i)).length = k) := keepL_length _ _
        clear hA hx
        go_wp2_with (first
          | (at_mapUpdate; refine wpList_put_int _ rfl _ _ _ rfl M (keepL k (L.take i)).length (kindL (keepL k (L.take i))) rfl H4.out.map (by rw [KL.out]; unfold maxLen; omega) x rfl wx 1 (by decide) (by decide) rfl ?_; intro w5 k1 k2; have K1 := Lib.hid k1; have K2 := Lib.hid k2; clear k1 k2))
        have H5 := H4.out.setK (c := 1) (i := x) (by rw [KL.out]; exact xb) (.inr (.inl rfl)) K1.out K2.out
        rw [← TK.out] at H5
        have f5 := fr_grown1 K2.out
        have V5 := V4.out.frN f5 (fun hl b hb e => by have h1 := VL.out hl b hb; have h2 := MB.out; omega)
        have Q5 := blk_fr Q4.out f5 QN.out.2
        have F5 := F4.out.trans (f5.mono (T := fun b => b = p ∨ b = M) fun b hb => .inr hb)
        go_roundw
        case rel => exact ⟨i + 1, by omega, by go_num, H5, V5, Q5, F5⟩
        case measure => simp [intOf]; omega
      · have hi : ¬ (i : Int) < (L.length : Int) := by omega
        obtain rfl : i = L.length := by omega
        have hT : L.take L.length = L := List.take_of_length_le (Nat.le_refl _)
        rw [hT] at H4
        clear hT
        have FIN : Hid (KeepB p g mb cb n lg k L d w (.returned (.int .i64 0)) wr) :=
          .inl ⟨HIN.out, M, rfl, H4.out, MB.out, Fr.shrink (Fr.refl _ w) F4.out (fun b hb hs => hs.elim id (fun e => by have := MB.out; omega))⟩
        go_wp2_with fail
        go_ret
        exact FIN.out
  · have hin' : inL k L = false := by simpa using hin
    rw [hin'] at CF
    have FIN : Hid (KeepB p g mb cb n lg k L d w (.returned (.int .i64 1)) w1) := .inr ⟨hin', rfl, B1.out⟩
    clear hin hin' h hv hvp Q1 F0 hw1
    go_enter Tryz.func43, Tryz.ntmps43
    go_wp2_with fail
    rw [← HW1.out]
    refine CF.out.mono ?_; rintro e w3 ⟨rfl, rfl⟩
    go_wp2_with fail
    go_ret
    exact FIN.out
theorem pager_Keep (v : Value) (L : List Int) (hL : L.length ≤ 65536) (w : World) (h : PgAt w S p n lg l d) (hv : SlIl w v L) (hvp : L ≠ [] → ∀ b, v.ownBlock = some b → b ≠ p) :
    Calls Tryz.prog 43 #[.pointer (some ⟨p, 0, none⟩), v] w (KeepP S p n lg (keptL l L) d w) := by
  obtain ⟨pm, g, mb, cb, h, rfl⟩ := h
  refine (pager_KeepB v L hL w h.b hv hvp).mono fun e w' hk => ?_
  rcases hk with ⟨hin, M, rfl, hc, hM, hf⟩ | ⟨hin, rfl, hb⟩
  · rw [show keptL l L = (keepL l.length L, 0) by unfold keptL; rw [if_pos hin]]
    refine ⟨_, rfl, hc.at, hf.mono fun b hb => .inr (.inl hb), fun b hb => ?_⟩
    rcases hb with hb | rfl | rfl
    · exact .inl (.inl hb)
    · exact .inl (.inr (.inl rfl))
    · exact .inr hM
  · rw [show keptL l L = (l, 1) by unfold keptL; rw [if_neg (by rw [hin]; decide)]]
    exact ⟨_, rfl, (h.below hb).at, Fr.of_below hb, fun b hb => .inl hb⟩
end
end Go.Proofs.YtdbiebnnogjccaaGreatDoor
