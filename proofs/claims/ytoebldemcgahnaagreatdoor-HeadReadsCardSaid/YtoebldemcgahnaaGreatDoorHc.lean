/- Heads (layer 20): a head's sector, the document's too. -/
import Derived.Test.YtoebldemcgahnaaGreatDoorHa
import Derived.Test.YtoebldemcgahnaaGreatDoorFd
import Derived.Deep.RegionHeld3
namespace Go.Proofs.YtoebldemcgahnaaGreatDoor
open Go.RowKit
def nameB : ByteArray := ⟨#[112, 97, 110, 110, 105, 101, 114]⟩
theorem body_str (h : Hd) : nameB ++ ofL (beBytes (h.r + 1) 2) ++ ofL (beBytes h.f 4) = ofL h.body := by
  refine bytes_ext ?_
  rw [list_append, list_append, ofL_list, ofL_list, ofL_list]
  unfold Hd.body
  rw [List.append_assoc]; rfl
theorem enc_good {h : Hd} (g : h.good) : encH h = (ofL h.sec, 0) := by unfold encH; rw [if_pos g]
theorem enc_bad {h : Hd} (g : ¬ h.good) : encH h = (⟨#[]⟩, 1) := by unfold encH; rw [if_neg g]
theorem make_head {h : Hd} (g : h.good) : makeF h.e (ofL h.body).data.toList = ([h.sec], 0) := by
  rw [ofL_list]
  unfold makeF
  rw [if_neg (by have := g.1.1; omega), if_neg (by rw [h.body_length]; omega), h.secs]
theorem SlStrs.one {w : World} {v : Value} {s : ByteArray} (h : SlStrs w v [s]) : ∃ b off cap, v = .slice (some ⟨b, off, none⟩) 1 cap ∧ w.cell? ⟨b, off, none⟩ = some (.string s) := by
  rcases h with ⟨_, h⟩ | ⟨b, off, cap, e, _, h⟩
  · cases h
  · exact ⟨b, off, cap, e, h.at' 0 (by simp)⟩
set_option maxRecDepth 20000 in
set_option maxHeartbeats 2000000 in
theorem head_Encode (h : Hd) (e0 : 0 ≤ h.e) (e1 : h.e < 4294967296) (f0 : 0 ≤ h.f) (f1 : h.f < 4294967296) (w : World) (he : EtIs w) (ht : TblIs w) :
    Calls Tryz.prog 31 #[h.v] w fun x w' => x = .returned (.tuple #[.string (encH h).1, .int .i64 (encH h).2]) ∧ Below w.heap.size w w' := by
  have GD := Lib.hid (fun W => head_good h.e h.r h.f W)
  have HE := Lib.hid he; have HT := Lib.hid ht
  clear he ht
  by_cases g : h.good
  · have gd : decide (Hd.mk h.e h.r h.f).good = true := decide_eq_true g
    rw [gd] at GD
    rw [enc_good g]
    obtain ⟨⟨a1, a2⟩, ⟨a3, a4⟩, a5, a6⟩ := g
    have w1 : IntKind.i64.wrap (h.r + 1) = h.r + 1 := IntWalk.i64_in _ (by omega)
    have w2 : IntKind.u64.wrap (h.r + 1) = h.r + 1 := by rw [IntKind.wrap_u64]; omega
    have w3 : IntKind.u64.wrap h.f = h.f := by rw [IntKind.wrap_u64]; omega
    have P1 := Lib.hid (fun W k => pack_Num (h.r + 1) 2 (by omega) (by omega) W k)
    have P2 := Lib.hid (fun W k => pack_Num h.f 4 (by omega) (by omega) W k)
    rw [show numR (h.r + 1) 2 = _ from num_be (n := 2) (.inr (.inl rfl)) (by omega) (by omega)] at P1
    rw [show numR h.f 4 = _ from num_be (n := 4) (.inr (.inr rfl)) (by omega) (by omega)] at P2
    have hs2 : (ofL (beBytes (h.r + 1) 2)).size = 2 := by rw [ofL_size, beBytes_length]
    have hs4 : (ofL (beBytes h.f 4)).size = 4 := by rw [ofL_size, beBytes_length]
    have hsB : (ofL h.body).size = 13 := by rw [ofL_size, h.body_length]
    have FM := Lib.hid (fun W k1 k2 => frame_Make h.e e0 e1 (ofL h.body) (by omega) W k1 k2)
    rw [make_head ⟨⟨a1, a2⟩, ⟨a3, a4⟩, a5, a6⟩] at FM
    have BS := body_str h
    unfold nameB at BS
    obtain ⟨X, hX⟩ : ∃ X, X = ofL (beBytes (h.r + 1) 2) := ⟨_, rfl⟩
    obtain ⟨Y, hY⟩ : ∃ Y, Y = ofL (beBytes h.f 4) := ⟨_, rfl⟩
    obtain ⟨Z, hZ⟩ : ∃ Z, Z = ofL h.body := ⟨_, rfl⟩
    obtain ⟨S, hS⟩ : ∃ S, S = ofL h.sec := ⟨_, rfl⟩
    rw [← hX] at P1 BS hs2
    rw [← hY] at P2 BS hs4
    rw [← hZ] at FM BS hsB
    rw [← hS]
    have FM2 : Hid (∀ W, EtIs W → TblIs W → Calls Tryz.prog 66 #[.int .u32 h.e, .string Z] W fun e w' => ∃ v, e = .returned (.tuple #[v, .int .i64 0]) ∧ SlStrs w' v [S] ∧ Below W.heap.size W w') := by rw [hS]; exact FM.out
    clear FM hX hY hZ hS gd
    unfold Hd.v
    obtain ⟨e, r, f⟩ := h
    dsimp only at *
    go_enter Tryz.func31, Tryz.ntmps31
    go_upto_region 1 with (fail)
    obtain ⟨w0, hw0⟩ : ∃ w0, w0 = w.alloc (.cells #[.int .u32 e, .int .i64 r, .int .u32 f] 54) := ⟨_, rfl⟩
    have B0 : Hid (Below w.heap.size w w0) := by show Below _ _ _; rw [hw0]; exact below_a1 _ _
    have X0 : Hid (w0.heap[w.heap.size]? = some (.cells #[.int .u32 e, .int .i64 r, .int .u32 f] 54 (0, 0))) := by show _ = _; rw [hw0]; exact blk_new _ _
    rw [← hw0]
    clear hw0
    have hc := blk_cell X0.out
    go_wp2_with fail
    refine (GD.out _).mono ?_; rintro x w1 ⟨rfl, hb⟩
    have B1 := Lib.hid (bstep B0.out hb)
    have X1 := Lib.hid (blk_below X0.out hb)
    clear hb hc
    have hc := blk_cell X1.out
    go_wp2_with fail
    refine (P1.out _ (HE.out.below B1.out)).mono ?_; rintro x w2 ⟨rfl, hb⟩
    have B2 := Lib.hid (bstep B1.out hb)
    have X2 := Lib.hid (blk_below X1.out hb)
    clear hb hc
    have hc := blk_cell X2.out
    go_wp2_with fail
    refine (P2.out _ (HE.out.below B2.out)).mono ?_; rintro x w3 ⟨rfl, hb⟩
    have B3 := Lib.hid (bstep B2.out hb)
    have X3 := Lib.hid (blk_below X2.out hb)
    clear hb hc
    have hc := blk_cell X3.out
    have hz1 : ¬ 9223372036854775807 < (⟨#[112, 97, 110, 110, 105, 101, 114]⟩ : ByteArray).size + X.size := by show ¬ 9223372036854775807 < 7 + X.size; omega
    have hz2 : ¬ 9223372036854775807 < ((⟨#[112, 97, 110, 110, 105, 101, 114]⟩ : ByteArray) ++ X).size + Y.size := by rw [ByteArray.size_append]; show ¬ 9223372036854775807 < 7 + X.size + Y.size; omega
    go_wp2_with fail
    refine (FM2.out _ (HE.out.below B3.out) (HT.out.below B3.out)).mono ?_; rintro x w4 ⟨v, rfl, hv, hb⟩
    obtain ⟨b, off, cap, rfl, hcell⟩ := hv.one
    have B4 := Lib.hid (bstep B3.out hb)
    clear hb hc hv hz1 hz2
    go_wp2_with fail
    go_ret2
    exact ⟨rfl, B4.out⟩
  · have gd : decide (Hd.mk h.e h.r h.f).good = false := decide_eq_false g
    rw [gd] at GD
    rw [enc_bad g]
    clear gd g
    unfold Hd.v
    obtain ⟨e, r, f⟩ := h
    dsimp only at *
    go_enter Tryz.func31, Tryz.ntmps31
    go_upto_region 1 with (fail)
    obtain ⟨w0, hw0⟩ : ∃ w0, w0 = w.alloc (.cells #[.int .u32 e, .int .i64 r, .int .u32 f] 54) := ⟨_, rfl⟩
    have B0 : Hid (Below w.heap.size w w0) := by show Below _ _ _; rw [hw0]; exact below_a1 _ _
    have X0 : Hid (w0.heap[w.heap.size]? = some (.cells #[.int .u32 e, .int .i64 r, .int .u32 f] 54 (0, 0))) := by show _ = _; rw [hw0]; exact blk_new _ _
    rw [← hw0]
    clear hw0
    have hc := blk_cell X0.out
    go_wp2_with fail
    refine (GD.out _).mono ?_; rintro x w1 ⟨rfl, hb⟩
    have B1 := Lib.hid (bstep B0.out hb)
    have X1 := Lib.hid (blk_below X0.out hb)
    clear hb hc
    go_wp2_with fail
    go_ret2
    exact ⟨rfl, B1.out⟩
end Go.Proofs.YtoebldemcgahnaaGreatDoor

/- Heads (layer 20): the document's Encode. -/
namespace Go.Proofs.YtoebldemcgahnaaGreatDoor
open Go.RowKit
set_option maxHeartbeats 1000000 in
theorem ref20_number (x : Int) (b : Bool) (hb : b = decide (1 ≤ x ∧ x ≤ 2147483648)) (w : World) :
    Calls Tryz.prog 76 #[.int .u32 x] w fun e w' => e = .returned (.bool b) ∧ w = w' := by
  by_cases h1 : 1 ≤ x
  · by_cases h2 : x ≤ 2147483648
    · obtain rfl : b = true := by rw [hb]; exact decide_eq_true ⟨h1, h2⟩
      clear hb
      go_enter Tryz.func76, Tryz.ntmps76
      go_wp2_with fail
      go_ret
      exact ⟨rfl, rfl⟩
    · obtain rfl : b = false := by rw [hb]; exact decide_eq_false (by omega)
      have h3 : decide (x ≤ 2147483648) = false := decide_eq_false h2
      clear hb
      go_enter Tryz.func76, Tryz.ntmps76
      go_wp2_with fail
      go_ret
      exact ⟨rfl, rfl⟩
  · obtain rfl : b = false := by rw [hb]; exact decide_eq_false (by omega)
    have h3 : decide (1 ≤ x) = false := decide_eq_false h1
    clear hb
    go_enter Tryz.func76, Tryz.ntmps76
    go_wp2_with fail
    go_ret
    exact ⟨rfl, rfl⟩
set_option maxRecDepth 20000 in
set_option maxHeartbeats 4000000 in
theorem ref20_Encode (h : Hd) (e0 : 0 ≤ h.e) (e1 : h.e < 4294967296) (f0 : 0 ≤ h.f) (f1 : h.f < 4294967296) (w : World) :
    Calls Tryz.prog 32 #[h.v] w fun x w' => x = .returned (.tuple #[.string (encH h).1, .int .i64 (encH h).2]) ∧ Below w.heap.size w w' := by
  by_cases g : h.good
  · have NE := Lib.hid (fun W => ref20_number h.e true (decide_eq_true g.1).symm W)
    have NF := Lib.hid (fun W => ref20_number h.f true (decide_eq_true g.2.1).symm W)
    rw [enc_good g]
    obtain ⟨⟨a1, a2⟩, ⟨a3, a4⟩, a5, a6⟩ := g
    have w1 : IntKind.i64.wrap (h.r + 1) = h.r + 1 := IntWalk.i64_in _ (by omega)
    have w3 : IntKind.i64.wrap h.f = h.f := IntWalk.i64_in _ (by omega)
    have n1 : ¬ h.r < -1 := by omega
    have n2 : ¬ 4096 < h.r := by omega
    have P1 := Lib.hid (fun W => must2 (h.r + 1) (by omega) (by omega) W)
    have P2 := Lib.hid (fun W => must4 h.f (by omega) (by omega) W)
    have hs2 : (ofL (beBytes (h.r + 1) 2)).size = 2 := by rw [ofL_size, beBytes_length]
    have hs4 : (ofL (beBytes h.f 4)).size = 4 := by rw [ofL_size, beBytes_length]
    have hsB : (ofL h.body).size = 13 := by rw [ofL_size, h.body_length]
    have FM := Lib.hid (fun W => ref18_Make h.e e0 e1 (ofL h.body) (by omega) W)
    rw [make_head ⟨⟨a1, a2⟩, ⟨a3, a4⟩, a5, a6⟩] at FM
    have BS := body_str h
    unfold nameB at BS
    obtain ⟨X, hX⟩ : ∃ X, X = ofL (beBytes (h.r + 1) 2) := ⟨_, rfl⟩
    obtain ⟨Y, hY⟩ : ∃ Y, Y = ofL (beBytes h.f 4) := ⟨_, rfl⟩
    obtain ⟨Z, hZ⟩ : ∃ Z, Z = ofL h.body := ⟨_, rfl⟩
    obtain ⟨S, hS⟩ : ∃ S, S = ofL h.sec := ⟨_, rfl⟩
    rw [← hX] at P1 BS hs2
    rw [← hY] at P2 BS hs4
    rw [← hZ] at FM BS hsB
    rw [← hS]
    have FM2 : Hid (∀ W, Calls Tryz.prog 77 #[.int .u32 h.e, .string Z] W fun e w' => ∃ v, e = .returned (.tuple #[v, .int .i64 0]) ∧ SlStrs w' v [S] ∧ Below W.heap.size W w') := by rw [hS]; exact FM.out
    clear FM hX hY hZ hS
    unfold Hd.v
    obtain ⟨e, r, f⟩ := h
    dsimp only at *
    go_enter Tryz.func32, Tryz.ntmps32
    go_upto_region 1 with (fail)
    obtain ⟨w0, hw0⟩ : ∃ w0, w0 = w.alloc (.cells #[.int .u32 e, .int .i64 r, .int .u32 f] 65) := ⟨_, rfl⟩
    have B0 : Hid (Below w.heap.size w w0) := by show Below _ _ _; rw [hw0]; exact below_a1 _ _
    have X0 : Hid (w0.heap[w.heap.size]? = some (.cells #[.int .u32 e, .int .i64 r, .int .u32 f] 65 (0, 0))) := by show _ = _; rw [hw0]; exact blk_new _ _
    rw [← hw0]
    clear hw0
    have hc := blk_cell X0.out
    go_wp2_with fail
    refine (NE.out _).mono ?_; rintro x y ⟨rfl, rfl⟩
    go_wp2_with fail
    refine (NF.out _).mono ?_; rintro x y ⟨rfl, rfl⟩
    have hz1 : ¬ 9223372036854775807 < (⟨#[112, 97, 110, 110, 105, 101, 114]⟩ : ByteArray).size + X.size := by show ¬ 9223372036854775807 < 7 + X.size; omega
    have hz2 : ¬ 9223372036854775807 < ((⟨#[112, 97, 110, 110, 105, 101, 114]⟩ : ByteArray) ++ X).size + Y.size := by rw [ByteArray.size_append]; show ¬ 9223372036854775807 < 7 + X.size + Y.size; omega
    go_upto_region 3 with (fail)
    have SOf : Hid (∀ W, Below w0.heap.size w0 W → ∀ o, W.cell? ⟨w.heap.size, o, none⟩ = (#[.int .u32 e, .int .i64 r, .int .u32 f] : Array Value)[o]?) := fun W k => blk_cell (blk_below X0.out k)
    have BN : Hid (Below w0.heap.size w0 w0.drew) := ⟨rfl, rfl, rfl, Nat.le_refl _, fun _ _ => rfl⟩
    have S0 := SOf.out _ BN.out
    clear hc
    go_region_held3 (fun w' => ∀ o, w'.cell? ⟨w.heap.size, o, none⟩ = (#[.int .u32 e, .int .i64 r, .int .u32 f] : Array Value)[o]?) (first | exact S0 | assumption)
      (first
        | (go_at_call_of 78 (Value.int IntKind.i64 2); (try rw [w1]); refine (P1.out _).mono ?_; rintro x y ⟨rfl, hb⟩; have BN := Lib.hid (bstep BN.out hb); have S0 := SOf.out _ BN.out; clear hb)
        | (go_at_call_of 78 (Value.int IntKind.i64 4); (try rw [w3]); refine (P2.out _).mono ?_; rintro x y ⟨rfl, hb⟩; have BN := Lib.hid (bstep BN.out hb); have S0 := SOf.out _ BN.out; clear hb)
        | (go_at_call 77; (try rw [BS]); refine (FM2.out _).mono ?_; rintro x y ⟨v, rfl, hv, hb⟩; obtain ⟨b, off, cap, rfl, hcell⟩ := hv.one; have BN := Lib.hid (bstep BN.out hb); have S0 := SOf.out _ BN.out; clear hb hv))
    go_wp2_with fail
    go_ret2
    exact ⟨rfl, bstep B0.out BN.out⟩
  · rw [enc_bad g]
    have NE := Lib.hid (fun b hb W => ref20_number h.e b hb W)
    have NF := Lib.hid (fun b hb W => ref20_number h.f b hb W)
    unfold Hd.good at g
    unfold Hd.v
    obtain ⟨e, r, f⟩ := h
    dsimp only at *
    have B0 : Hid (Below w.heap.size w (w.alloc (.cells #[.int .u32 e, .int .i64 r, .int .u32 f] 65))) := below_a1 _ _
    have hc : ∀ o, (w.alloc (.cells #[.int .u32 e, .int .i64 r, .int .u32 f] 65)).cell? ⟨w.heap.size, o, none⟩ = (#[.int .u32 e, .int .i64 r, .int .u32 f] : Array Value)[o]? := blk_cell (blk_new _ _)
    obtain ⟨w0, hw0⟩ : ∃ w0, w0 = w.alloc (.cells #[.int .u32 e, .int .i64 r, .int .u32 f] 65) := ⟨_, rfl⟩
    rw [← hw0] at B0 hc
    go_enter Tryz.func32, Tryz.ntmps32
    go_upto_region 1 with (fail)
    rw [← hw0]
    clear hw0
    by_cases ge : 1 ≤ e ∧ e ≤ 2147483648
    · have NE1 := Lib.hid (fun W => NE.out true (decide_eq_true ge).symm W)
      by_cases gf : 1 ≤ f ∧ f ≤ 2147483648
      · have NF1 := Lib.hid (fun W => NF.out true (decide_eq_true gf).symm W)
        by_cases g1 : r < -1
        · clear g ge gf
          go_wp2_with fail
          refine (NE1.out _).mono ?_; rintro x y ⟨rfl, rfl⟩
          go_wp2_with fail
          refine (NF1.out _).mono ?_; rintro x y ⟨rfl, rfl⟩
          go_wp2_with fail
          go_ret2
          exact ⟨rfl, B0.out⟩
        · have g2 : 4096 < r := by omega
          clear g ge gf
          go_wp2_with fail
          refine (NE1.out _).mono ?_; rintro x y ⟨rfl, rfl⟩
          go_wp2_with fail
          refine (NF1.out _).mono ?_; rintro x y ⟨rfl, rfl⟩
          go_wp2_with fail
          go_ret2
          exact ⟨rfl, B0.out⟩
      · have NF1 := Lib.hid (fun W => NF.out false (decide_eq_false gf).symm W)
        clear g ge gf
        go_wp2_with fail
        refine (NE1.out _).mono ?_; rintro x y ⟨rfl, rfl⟩
        go_wp2_with fail
        refine (NF1.out _).mono ?_; rintro x y ⟨rfl, rfl⟩
        go_wp2_with fail
        go_ret2
        exact ⟨rfl, B0.out⟩
    · have NE1 := Lib.hid (fun W => NE.out false (decide_eq_false ge).symm W)
      clear g ge
      go_wp2_with fail
      refine (NE1.out _).mono ?_; rintro x y ⟨rfl, rfl⟩
      go_wp2_with fail
      go_ret2
      exact ⟨rfl, B0.out⟩
end Go.Proofs.YtoebldemcgahnaaGreatDoor
