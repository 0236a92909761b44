/- Nodes (layer 23): the reader of a node. -/
import Derived.Test.YtlpdanghcdajmaaDoorNzb
namespace Go.Proofs.YtlpdanghcdajmaaDoor
open Go.RowKit
set_option maxRecDepth 100000 in
set_option maxHeartbeats 4000000 in
theorem rn_node_else (p : Nat) (b : ByteArray) (hb : b.size ≤ 140737488351232) (k a1 a2 c : Int) (b1 b2 : Bool) (h1 : rdR b 0 false 1 = (k, a1, b1)) (h2 : rdR b a1 b1 1 = (c, a2, b2)) (k1 : ¬ k = 1) (k2 : ¬ k = 2) (w : World) (he : EtIs w) (hp : IsRn w p b 0 false) (hpe : p ≠ 1) :
    Calls Tryd.prog 77 #[.pointer (some ⟨p, 0, none⟩)] w fun e w' => ∃ v1 v2 v3, e = .returned (.agg #[.bool false, v1, v2, v3]) ∧ NdUp w.heap.size w' v1 v2 v3 Nd.nil ∧ IsRn w' p b a2 b2 ∧ Fr (· = p) w w' ∧ EtIs w' := by
  have N1 := Lib.hid (rn_num p b 0 false 1 hb (by decide)); rw [h1] at N1
  have N2 := Lib.hid (rn_num p b a1 b1 1 hb (by decide)); rw [h2] at N2
  have hw0 := he.lt
  have hpw := hp.lt
  have k1b : (k == 1) = false := by rw [beq_eq_false_iff_ne]; exact k1
  have k2b : (k == 2) = false := by rw [beq_eq_false_iff_ne]; exact k2
  clear h1 h2
  go_enter Tryd.func77, Tryd.ntmps77
  go_wp2_with fail
  obtain ⟨w0, hw0e, W0⟩ := rd_w0 w p b he hp
  rw [hw0e]; clear hw0e hp he
  refine (N1.out _ W0.et W0.rd hpe).mono ?_; rintro e w1 ⟨rfl, hp1, hf1, he1⟩
  have W1 := Lib.hid (W0.call hp1 hf1 he1 hpw)
  clear hp1 hf1 he1 W0
  go_wp2_with fail
  refine (N2.out _ W1.out.et W1.out.rd hpe).mono ?_; rintro e w2 ⟨rfl, hp2, hf2, he2⟩
  have W2 := Lib.hid (W1.out.call hp2 hf2 he2 hpw)
  clear hp2 hf2 he2
  have hcn := blk_cell W2.out.nb
  have hcf := blk_frozen W2.out.res
  have hcs := blk_cell W2.out.res
  have D := W2.out.done hpw hw0 hpe rfl (by decide) (by decide) (by decide)
  have s0 := blk_cell D.1 0
  have s1 := blk_cell D.1 1
  have s2 := blk_cell D.1 2
  have s3 := blk_cell D.1 3
  simp only [List.getElem?_toArray, List.getElem?_cons_zero, List.getElem?_cons_succ] at s0 s1 s2 s3
  have D2 := Lib.hid D.2
  clear D
  unfold set4 at s0 s1 s2 s3 D2
  go_wp2_with fail
  exact bodyPost_ret (v := .agg #[.bool false, .slice none 0 0, .slice none 0 0, .slice none 0 0]) (by simp only [results, Tryd.results77]; simp [go_sem, s0, s1, s2, s3, Nd.nil]) rfl ⟨_, _, _, rfl, D2.out⟩
theorem rn_node (p : Nat) (b : ByteArray) (hb : b.size ≤ 140737488351232) (w : World) (he : EtIs w) (hp : IsRn w p b 0 false) (hpe : p ≠ 1) :
    Calls Tryd.prog 77 #[.pointer (some ⟨p, 0, none⟩)] w fun e w' => ∃ v1 v2 v3, e = .returned (.agg #[.bool (rdN b).1.lf, v1, v2, v3]) ∧ NdUp w.heap.size w' v1 v2 v3 (rdN b).1 ∧ IsRn w' p b (rdN b).2.1 (rdN b).2.2 ∧ Fr (· = p) w w' ∧ EtIs w' := by
  obtain ⟨k, a1, b1, h1⟩ : ∃ k a1 b1, rdR b 0 false 1 = (k, a1, b1) := ⟨_, _, _, rfl⟩
  obtain ⟨c, a2, b2, h2⟩ : ∃ c a2 b2, rdR b a1 b1 1 = (c, a2, b2) := ⟨_, _, _, rfl⟩
  by_cases k1 : k = 1
  · subst k1
    have e : rdN b = (⟨true, (rdIs b ([], a2, b2) c.toNat).1, [], []⟩, (rdIs b ([], a2, b2) c.toNat).2.1, (rdIs b ([], a2, b2) c.toNat).2.2) := by unfold rdN; simp only [h1, h2]; rw [if_pos trivial]
    rw [e]
    exact rn_node_leaf p b hb a1 a2 c b1 b2 h1 h2 w he hp hpe
  · by_cases k2 : k = 2
    · subst k2
      obtain ⟨d, a3, b3, h3⟩ : ∃ d a3 b3, rdR b a2 b2 2 = (d, a3, b3) := ⟨_, _, _, rfl⟩
      have e : rdN b = (⟨false, [], (rdPs b ([], [d], a3, b3) c.toNat).1, (rdPs b ([], [d], a3, b3) c.toNat).2.1⟩, (rdPs b ([], [d], a3, b3) c.toNat).2.2.1, (rdPs b ([], [d], a3, b3) c.toNat).2.2.2) := by unfold rdN; simp only [h1, h2, h3]; rw [if_neg (by decide), if_pos trivial]
      rw [e]
      exact rn_node_inner p b hb a1 a2 a3 c d b1 b2 b3 h1 h2 h3 w he hp hpe
    · have e : rdN b = (Nd.nil, a2, b2) := by unfold rdN; simp only [h1, h2]; rw [if_neg k1, if_neg k2]
      rw [e]
      exact rn_node_else p b hb k a1 a2 c b1 b2 h1 h2 k1 k2 w he hp hpe
end Go.Proofs.YtlpdanghcdajmaaDoor
