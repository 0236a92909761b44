/- Nodes (layer 23): node.Encode of an inner node; node.Encode. -/
import Derived.Test.YtlpdanghcdajmaaDoorNv
namespace Go.Proofs.YtlpdanghcdajmaaDoor
open Go.RowKit
/-- The inner node's bytes so far. -/
def innerS (n : Nd) (k : Nat) : ByteArray := ((n.K.zip n.D.tail).take k).foldl (fun s x => s ++ encP x) ((⟨#[]⟩ : ByteArray) ++ (numR 2 1).1 ++ (numR n.K.length 1).1 ++ (numR (n.D.headD 0) 2).1)
theorem encP_size (x : Int × Int) : (encP x).size ≤ 16 := by
  have h1 := numR_size x.1 4
  have h2 := numR_size x.2 2
  unfold encP
  rw [ByteArray.size_append]; omega
theorem innerS_size {n : Nd} (hg : n.good = true) (k : Nat) : (innerS n k).size ≤ 20000 := by
  obtain ⟨_, _, g3, g4⟩ := good_items hg
  have h := foldl_size encP 16 ((n.K.zip n.D.tail).take k) ((⟨#[]⟩ : ByteArray) ++ (numR 2 1).1 ++ (numR n.K.length 1).1 ++ (numR (n.D.headD 0) 2).1) fun x _ => encP_size x
  have h1 := numR_size 2 1
  have h2 := numR_size n.K.length 1
  have h3 := numR_size (n.D.headD 0) 2
  have h0 : (⟨#[]⟩ : ByteArray).size = 0 := rfl
  rw [ByteArray.size_append, ByteArray.size_append, ByteArray.size_append] at h
  rw [List.length_take, List.length_zip] at h
  unfold innerS; omega
theorem innerS_bytes {n : Nd} (hl : n.lf = false) (_hd : n.D.length = n.K.length + 1) : innerS n n.K.length = n.bytes := by
  unfold innerS Nd.bytes
  rw [List.take_of_length_le (by rw [List.length_zip, List.length_tail]; omega), if_neg (by simp [hl]), emp_append]
theorem innerS_step {n : Nd} {k : Nat} (hk : k < n.K.length) (hk2 : k + 1 < n.D.length) : innerS n (k + 1) = innerS n k ++ (numR n.K[k] 4).1 ++ (numR n.D[k + 1] 2).1 := by
  have hz : k < (n.K.zip n.D.tail).length := by rw [List.length_zip, List.length_tail]; omega
  unfold innerS
  rw [foldl_step encP _ _ hz]
  have e : (n.K.zip n.D.tail)[k] = (n.K[k], n.D[k + 1]) := by simp
  rw [e]
  generalize (n.K.zip n.D.tail).take k = l
  generalize l.foldl _ _ = S
  unfold encP
  rw [ByteArray.append_assoc]
set_option maxRecDepth 100000 in
set_option maxHeartbeats 4000000 in
theorem node_Encode_inner (K D : List Int) (v1 v2 v3 : Value) (w : World) (hn : NdAt w v1 v2 v3 ⟨false, [], K, D⟩) (ht : Nd.typed ⟨false, [], K, D⟩) (hg : Nd.good ⟨false, [], K, D⟩ = true) (hs : Nd.size ⟨false, [], K, D⟩ ≤ 236) (he : EtIs w) :
    Calls Tryd.prog 44 #[.agg #[.bool false, v1, v2, v3]] w fun e w' => e = .returned (.tuple #[.string (Nd.bytes ⟨false, [], K, D⟩), .int .i64 0]) ∧ Below w.heap.size w w' := by
  obtain ⟨p1, c1, p2, c2, p3, c3, rfl, rfl, rfl⟩ := hn.form
  simp only [List.length_nil] at *
  have hlt := he.lt
  have hS := Lib.hid (fun W h => node_Size ⟨false, [], K, D⟩ (.slice p1 0 c1) (.slice p2 K.length c2) (.slice p3 D.length c3) W h)
  have hz2 := size_pos ht hg
  have hg' : goodN false [] K D = true := hg
  obtain ⟨_, gk1, gk2, gd, gD, _⟩ := good_inner hg'
  have hLS := Lib.hid (innerS_size hg)
  have hLB := Lib.hid (innerS_bytes (n := ⟨false, [], K, D⟩) rfl gd)
  have hST := Lib.hid (fun k (hk : k < K.length) (hk2 : k + 1 < D.length) => innerS_step (n := ⟨false, [], K, D⟩) hk hk2)
  have hT := Lib.hid ht.K
  have hD := Lib.hid (fun x hx => page_bd (gD x hx))
  obtain ⟨z, hz⟩ : ∃ z, z = Nd.size ⟨false, [], K, D⟩ := ⟨_, rfl⟩
  simp only [← hz] at hS hz2 hs
  clear hz hg hg' ht gD
  have hz0 : (z == 0) = false := by rw [beq_eq_false_iff_ne]; omega
  have hz1 : ¬ z = 0 := by omega
  have hz3 : ¬ 236 < z := by omega
  obtain ⟨w0, hw0⟩ : ∃ w0, w0 = w.alloc (.cells #[.bool false, .slice p1 0 c1, .slice p2 K.length c2, .slice p3 D.length c3] 73) := ⟨_, rfl⟩
  have B0 : Hid (Below w.heap.size w w0) := by show Below _ _ _; rw [hw0]; exact below_a1 _ _
  have H0 : Hid (NdAt w0 (.slice p1 0 c1) (.slice p2 K.length c2) (.slice p3 D.length c3) ⟨false, [], K, D⟩) := by show NdAt _ _ _ _ _; exact hn.below B0.out
  have bx : Hid (w0.heap[w.heap.size]? = some (.cells #[.bool false, .slice p1 0 c1, .slice p2 K.length c2, .slice p3 D.length c3] 73 (0, 0))) := by show _ = _; rw [hw0]; exact blk_new _ _
  have HN := Lib.hid hn
  have HE := Lib.hid he
  have hD0 : 0 < D.length := by omega
  have Gd := Lib.hid gd
  clear gd
  obtain ⟨b3, o3, rfl, _⟩ := hn.D.at hD0
  have hN3 : Hid (∀ W, Below w.heap.size w W → IntsAt .i64 W b3 o3 D) := by
    intro W hb
    obtain ⟨b', o', e, h⟩ := (hn.below hb).D.at hD0
    injection e with e; injection e with e1 e2; subst e1; subst e2; exact h
  clear hn he
  go_enter Tryd.func44, Tryd.ntmps44
  have hc := blk_cell bx.out
  go_wp2_with fail
  rw [← hw0]
  refine (hS.out _ H0.out).mono ?_; rintro e w1 ⟨rfl, hb1⟩
  have B1 := Lib.hid (bstep B0.out hb1)
  have bx1 := Lib.hid (blk_below bx.out hb1)
  have he1 := Lib.hid (HE.out.below B1.out)
  have hz4 : w.heap.size < w1.heap.size := blk_lt bx1.out
  have hc1 := blk_cell bx1.out
  clear hc hb1
  go_wp2_with fail
  obtain ⟨p, hpd⟩ : ∃ p, p = w1.heap.size := ⟨_, rfl⟩
  have hpb : w.heap.size ≠ p := by omega
  have hpe : p ≠ 1 := by omega
  obtain ⟨w2, hw2⟩ : ∃ w2, w2 = w1.alloc (.cells #[.string ⟨#[]⟩] 131) := ⟨_, rfl⟩
  have hp2 : IsWn w2 p ⟨#[]⟩ := by rw [hw2, hpd]; exact blk_new _ _
  have bx2 : Hid (w2.heap[w.heap.size]? = some (.cells #[.bool false, .slice p1 0 c1, .slice p2 K.length c2, .slice (some ⟨b3, o3, none⟩) D.length c3] 73 (0, 0))) := by show _ = _; rw [hw2]; exact blk_alloc bx1.out
  have he2 : EtIs w2 := by rw [hw2]; exact he1.out.alloc _
  have B2 : Hid (Below w.heap.size w w2) := by show Below _ _ _; rw [hw2]; exact B1.out.alloc (by omega) _
  rw [← hw2, ← hpd]
  have hpw : w.heap.size < p := by omega
  clear hw2 hpd hc1 hz4
  have h0 : (⟨#[]⟩ : ByteArray).size = 0 := rfl
  have hy3 := numR_size 2 1
  have hy4 := numR_size K.length 1
  refine (wn_num p _ 2 1 (by omega) (by omega) (by decide) _ he2 hp2 hpe).mono ?_; rintro e w3 ⟨rfl, hp3, hf3, he3⟩
  have bx3 := Lib.hid (blk_fr bx2.out hf3 hpb)
  have B3 := Lib.hid (Below.fr B2.out hf3 (by omega) B2.out.size)
  have hc3 := blk_cell bx3.out
  clear hf3
  go_wp2_with fail
  refine (wn_num p _ K.length 1 (by omega) (by omega) (by rw [ByteArray.size_append]; omega) _ he3 hp3 hpe).mono ?_; rintro e w4 ⟨rfl, hp4, hf4, he4⟩
  have bx4 := Lib.hid (blk_fr bx3.out hf4 hpb)
  have B4 := Lib.hid (Below.fr B3.out hf4 (by omega) B3.out.size)
  have hc4 := blk_cell bx4.out
  have hd0 := (hN3.out w4 B4.out).at' 0 hD0
  have hdd : D.headD 0 = D[0] := by cases D with | nil => simp at hD0 | cons d E => rfl
  have hbd0 := hD.out D[0] (List.getElem_mem hD0)
  obtain ⟨d0, hd0e⟩ : ∃ d0, d0 = D[0] := ⟨_, rfl⟩
  rw [← hd0e] at hd0 hdd hbd0
  have hDi : (0 : Int) < (D.length : Int) := by omega
  have Hdd := Lib.hid hdd
  clear hf4 hc3 hd0e hdd
  simp only [Nat.add_zero] at hd0
  go_wp2_with fail
  have hy5 := numR_size d0 2
  refine (wn_num p _ d0 2 (by omega) (by omega) (by rw [ByteArray.size_append, ByteArray.size_append]; omega) _ he4 hp4 hpe).mono ?_; rintro e w5 ⟨rfl, hp5, hf5, he5⟩
  have bx5 := Lib.hid (blk_fr bx4.out hf5 hpb)
  have B5 := Lib.hid (Below.fr B4.out hf5 (by omega) B4.out.size)
  have hc5 := blk_cell bx5.out
  have hp5' : Hid (IsWn w5 p (innerS ⟨false, [], K, D⟩ 0)) := by
    show IsWn _ _ _
    unfold innerS
    simp only [List.take_zero, List.foldl_nil, Hdd.out]
    exact hp5
  have he5' := Lib.hid he5
  clear hf5 hp4 he4 hc4 hp5 he5 hd0
  go_wp2_with fail
  go_loopw [82] (fun iv wr => ∃ k : Nat, k ≤ K.length ∧ iv = .int .i64 k ∧ IsWn wr p (innerS ⟨false, [], K, D⟩ k) ∧ EtIs wr ∧ Below w.heap.size w wr ∧ wr.heap[w.heap.size]? = some (.cells #[.bool false, .slice p1 0 c1, .slice p2 K.length c2, .slice (some ⟨b3, o3, none⟩) D.length c3] 73 (0, 0))) (fun iv _ => K.length - (intOf iv).toNat)
  case atStart => exact ⟨0, Nat.zero_le _, rfl, hp5'.out, he5'.out, B5.out, bx5.out⟩
  case round =>
    obtain ⟨k, hk, rfl, hp, he, hB, hbx⟩ := hrel
    have HB := Lib.hid hB
    have HP := Lib.hid hp
    have HE := Lib.hid he
    have HX := Lib.hid hbx
    clear hB hp he hc5 hbx
    by_cases hltk : k < K.length
    · have hi : (k : Int) < (K.length : Int) := by omega
      obtain ⟨b2, o2, rfl, hIt⟩ := (HN.out.below HB.out).K.at hltk
      have c0 := hIt.at' k hltk
      have hkD : k + 1 < D.length := by have := Gd.out; omega
      have hkx : 0 ≤ K[k] ∧ K[k] < 4294967296 := hT.out _ (List.getElem_mem hltk)
      have hdx := hD.out _ (List.getElem_mem hkD)
      have hst : innerS ⟨false, [], K, D⟩ (k + 1) = innerS ⟨false, [], K, D⟩ k ++ (numR K[k] 4).1 ++ (numR D[k + 1] 2).1 := hST.out k hltk hkD
      have hls := hLS.out k
      have hcell : ∀ W, Below w.heap.size w W → W.cell? ⟨b3, o3 + (k + 1), none⟩ = some (.int .i64 D[k + 1]) := fun W hb => (hN3.out W hb).at' (k + 1) hkD
      obtain ⟨x, hx⟩ : ∃ x, x = K[k] := ⟨_, rfl⟩
      obtain ⟨y, hy⟩ : ∃ y, y = D[k + 1] := ⟨_, rfl⟩
      rw [← hx] at c0 hkx hst
      rw [← hy] at hdx hst hcell
      have HST := Lib.hid hst
      have HC := Lib.hid hcell
      clear hx hy hIt hst hcell
      obtain ⟨S, hS⟩ : ∃ S, S = innerS ⟨false, [], K, D⟩ k := ⟨_, rfl⟩
      rw [← hS] at hls HP HST
      clear hS
      have hw1 : IntKind.i64.wrap x = x := IntWalk.i64_in _ (by omega)
      have hy1 := numR_size x 4
      have hy2 := numR_size y 2
      go_wp2_with fail
      refine (wn_num p _ x 4 (by omega) (by omega) (by omega) _ HE.out HP.out hpe).mono ?_; rintro e wb ⟨rfl, hpB, hfB, heB⟩
      have bxb := Lib.hid (blk_fr HX.out hfB hpb)
      have BB := Lib.hid (Below.fr HB.out hfB (by omega) HB.out.size)
      have hcb := blk_cell bxb.out
      have hyb := HC.out _ BB.out
      have m0 : (k : Int) + 1 < (D.length : Int) := by omega
      have m1 : ((k : Int) + 1).toNat = k + 1 := by omega
      have m2 : (0 : Int) ≤ (k : Int) + 1 := by omega
      have m3 : IntKind.i64.wrap ((k : Int) + 1) = (k : Int) + 1 := IntWalk.i64_in _ (by omega)
      clear hfB c0
      go_wp2_with fail
      refine (wn_num p _ y 2 (by omega) (by omega) (by rw [ByteArray.size_append]; omega) _ heB hpB hpe).mono ?_; rintro e wc ⟨rfl, hpC, hfC, heC⟩
      have bxc := Lib.hid (blk_fr bxb.out hfC hpb)
      have BC := Lib.hid (Below.fr BB.out hfC (by omega) BB.out.size)
      clear hfC hcb hpB heB hyb
      go_wp2_with fail
      go_roundw
      case rel => exact ⟨k + 1, by omega, by go_num, by rw [HST.out]; exact hpC, heC, BC.out, bxc.out⟩
      case measure => simp [intOf]; omega
    · have hi : ¬ (k : Int) < (K.length : Int) := by omega
      obtain rfl : k = K.length := by omega
      rw [hLB.out] at HP
      have hpc := blk_cell HP.out
      go_wp2_with fail
      go_ret2
      exact ⟨rfl, HB.out⟩
theorem node_Encode (n : Nd) (v1 v2 v3 : Value) (w : World) (hn : NdAt w v1 v2 v3 n) (ht : n.typed) (he : EtIs w) :
    Calls Tryd.prog 44 #[.agg #[.bool n.lf, v1, v2, v3]] w fun e w' => e = .returned (.tuple #[.string n.enc.1, .int .i64 n.enc.2]) ∧ Below w.heap.size w w' := by
  by_cases hok : n.good = true ∧ n.size ≤ 236
  · obtain ⟨hg, hs⟩ := hok
    have e : n.enc = (n.bytes, 0) := by unfold Nd.enc; rw [if_neg (by simp [hg]), if_neg (by omega)]
    rw [e]
    obtain ⟨lf, I, K, D⟩ := n
    cases lf with
    | true =>
      have hg' : goodN true I K D = true := hg
      obtain ⟨rfl, rfl, _⟩ := good_leaf hg'
      exact node_Encode_leaf I v1 v2 v3 w hn ht hg hs he
    | false =>
      have hg' : goodN false I K D = true := hg
      obtain ⟨rfl, _⟩ := good_inner hg'
      exact node_Encode_inner K D v1 v2 v3 w hn ht hg hs he
  · obtain ⟨p1, c1, p2, c2, p3, c3, rfl, rfl, rfl⟩ := hn.form
    have hS := Lib.hid (fun W h => node_Size n (.slice p1 n.I.length c1) (.slice p2 n.K.length c2) (.slice p3 n.D.length c3) W h)
    obtain ⟨w0, hw0⟩ : ∃ w0, w0 = w.alloc (.cells #[.bool n.lf, .slice p1 n.I.length c1, .slice p2 n.K.length c2, .slice p3 n.D.length c3] 73) := ⟨_, rfl⟩
    have B0 : Hid (Below w.heap.size w w0) := by show Below _ _ _; rw [hw0]; exact below_a1 _ _
    have H0 : Hid (NdAt w0 (.slice p1 n.I.length c1) (.slice p2 n.K.length c2) (.slice p3 n.D.length c3) n) := by show NdAt _ _ _ _ _; exact hn.below B0.out
    have bx : Hid (w0.heap[w.heap.size]? = some (.cells #[.bool n.lf, .slice p1 n.I.length c1, .slice p2 n.K.length c2, .slice p3 n.D.length c3] 73 (0, 0))) := by show _ = _; rw [hw0]; exact blk_new _ _
    cases hg : n.good with
    | false =>
      have e : n.enc = (⟨#[]⟩, 11) := by unfold Nd.enc; rw [if_pos hg]
      have hz : n.size = 0 := by unfold Nd.size; rw [if_neg (by simp [hg])]
      rw [e]
      rw [hz] at hS
      clear e hz hg hok hn ht he
      go_enter Tryd.func44, Tryd.ntmps44
      have hc := blk_cell bx.out
      go_wp2_with fail
      rw [← hw0]
      refine (hS.out _ H0.out).mono ?_; rintro e w1 ⟨rfl, hb1⟩
      go_wp2_with fail
      go_ret2
      exact ⟨rfl, bstep B0.out hb1⟩
    | true =>
      have hz : 236 < n.size := by
        rcases Int.lt_or_le 236 n.size with h | h
        · exact h
        · exact absurd ⟨hg, h⟩ hok
      have e : n.enc = (⟨#[]⟩, 2) := by unfold Nd.enc; rw [if_neg (by simp [hg]), if_pos hz]
      rw [e]
      obtain ⟨z, hze⟩ : ∃ z, z = n.size := ⟨_, rfl⟩
      rw [← hze] at hz hS
      have hz0 : (z == 0) = false := by rw [beq_eq_false_iff_ne]; omega
      have hz1 : ¬ z = 0 := by omega
      clear e hze hg hok hn ht he
      go_enter Tryd.func44, Tryd.ntmps44
      have hc := blk_cell bx.out
      go_wp2_with fail
      rw [← hw0]
      refine (hS.out _ H0.out).mono ?_; rintro e w1 ⟨rfl, hb1⟩
      go_wp2_with fail
      go_ret2
      exact ⟨rfl, bstep B0.out hb1⟩
end Go.Proofs.YtlpdanghcdajmaaDoor
