/- Heads (layer 20): a beginning of a head's sector over another's: plain words. -/
import Derived.Test.YtoebldemcgahnaaGreatDoorFn
import Derived.Test.YtoebldemcgahnaaGreatDoorHp
import Derived.Test.YtoebldemcgahnaaGreatDoorJl
import Derived.Test.YtoebldemcgahnaaGreatDoorDx
import Derived.Test.YtoebldemcgahnaaGreatDoorDze
namespace Go.Proofs.YtoebldemcgahnaaGreatDoor
/-- The elder number: the elder sector. -/
theorem torn_elder {a b : List UInt8} {o n : Int} (ho : a.length = 256) (hb : b.length = 256) (o0 : 0 < o) (o1 : o < 4294967296) (n0 : 0 < n) (n1 : n < 4294967296) (hne : o ≠ n)
    (a4 : a.take 4 = mkL o) (b4 : b.take 4 = mkL n) {i : Nat} (hi : i ≤ 256) (h : numF (tornL a b i) = o) : tornL a b i = a := by
  have hl := tornL_length ho hb hi
  have hmk : mkL o ≠ mkL n := fun h => hne (mkL_inj (by omega) n1 (by omega) o1 h)
  have h4 : (tornL a b i).take 4 = mkL o := by
    unfold numF at h
    split at h
    · have hm := mk_val (l := (tornL a b i).take 4) (by rw [List.length_take, hl]; rfl)
      rw [h] at hm
      exact hm.symm
    · omega
  by_cases c : 4 ≤ i
  · exfalso
    have e : (tornL a b i).take 4 = b.take 4 := by
      unfold tornL
      rw [List.take_append_of_le_length (by rw [List.length_take, hb]; omega), List.take_take]
      congr 1; omega
    rw [e, b4] at h4
    exact hmk h4.symm
  · have e1 : ((tornL a b i).take 4).take i = b.take i := by
      rw [List.take_take]
      unfold tornL
      rw [List.take_append_of_le_length (by rw [List.length_take, hb]; omega), List.take_take]
      congr 1; omega
    have e2 : (a.take 4).take i = a.take i := by rw [List.take_take]; congr 1; omega
    rw [h4, ← a4, e2] at e1
    unfold tornL
    rw [← e1, List.take_append_drop]
theorem dec_zero {b : List UInt8} (h : numF b = 0) : decL b = (⟨0, 0, 0⟩, 11) := by
  have : readF [b] = none := by unfold readF; dsimp only; rw [if_pos (.inl h)]
  unfold decL; rw [this]
/-- A head's sector of which the first bytes are another's: the elder one, the new one, or none; whole: the new one. -/
theorem torn_dec {x y : Hd} (gx : x.good) (gy : y.good) (hne : x.e ≠ y.e) {i : Nat} (hi : i ≤ 256) :
    decL (tornL x.sec y.sec i) = (x, 0) ∨ decL (tornL x.sec y.sec i) = (y, 0) ∨ decL (tornL x.sec y.sec i) = (⟨0, 0, 0⟩, 11) := by
  have lx := x.sec_len; have ly := y.sec_len
  have hx4 : x.sec.take 4 = mkL x.e := sec_take4
  have hy4 : y.sec.take 4 = mkL y.e := sec_take4
  have hx5 : x.sec.drop 252 = mkL x.e := sec_end (by have := allF_length x.body; rw [x.body_length] at this; exact this) (by decide)
  have hy5 : y.sec.drop 252 = mkL y.e := sec_end (by have := allF_length y.body; rw [y.body_length] at this; exact this) (by decide)
  have ex := gx.1; have ey := gy.1
  rcases torn_say lx ly (by omega : 0 < x.e) (by omega) (by omega : 0 < y.e) (by omega) hne hx4 hx5 hy4 hy5 hi with h | h | h
  · exact .inr (.inr (dec_zero h.1))
  · have := torn_elder lx ly (by omega : 0 < x.e) (by omega) (by omega : 0 < y.e) (by omega) hne hx4 hy4 hi h.1
    rw [this]
    exact .inl (dec_enc gx)
  · rw [h.2.1]
    exact .inr (.inl (dec_enc gy))
theorem torn_whole {x y : Hd} : tornL x.sec y.sec 256 = y.sec := by
  unfold tornL
  rw [List.take_of_length_le (by rw [y.sec_len]; decide), List.drop_of_length_le (by rw [x.sec_len]; decide), List.append_nil]
end Go.Proofs.YtoebldemcgahnaaGreatDoor

/- Heads (layer 20): what HeadSafe's disk says behind the crash. -/
namespace Go.Proofs.YtoebldemcgahnaaGreatDoor
noncomputable def sf1 (x : Hd) : Dk := ((Dk.new 64).put (x.e % 2) (ofL x.sec)).pour
noncomputable def sf2 (x z : Hd) : Dk := ((sf1 x).put (z.e % 2) (ofL z.sec)).pour
noncomputable def sf3 (x z y : Hd) : Dk := (sf2 x z).put (y.e % 2) (ofL y.sec)
noncomputable def sf5 (x z y : Hd) (n : Int) : Dk := ((sf3 x z y).crash [(y.e % 2, n)]).start
theorem sf_c1 (x : Hd) : (sf1 x).Calm 64 := (calm_put (calm_new (by decide) (by decide)) (by decide) x).pour
theorem sf_c2 (x z : Hd) : (sf2 x z).Calm 64 := (calm_put (sf_c1 x) (by decide) z).pour
theorem sf_c3 (x z y : Hd) : (sf3 x z y).Calm 64 := calm_put (sf_c2 x z) (by decide) y
theorem torn_str {x y : Hd} {n : Nat} : (ofL y.sec).extract 0 n ++ (ofL x.sec).extract n 256 = ofL (tornL x.sec y.sec n) := by
  refine bytes_ext ?_
  rw [list_append, extract_list, extract_list, ofL_list, ofL_list, ofL_list, List.drop_zero, Nat.sub_zero]
  unfold tornL
  congr 1
  exact List.take_of_length_le (by rw [List.length_drop, x.sec_len]; omega)
/-- The sector that was written last is torn. -/
theorem sf_torn (x z y : Hd) (hxy : x.e % 2 = y.e % 2) (hz : z.e % 2 ≠ y.e % 2) {n : Int} (h0 : 0 ≤ n) (h1 : n ≤ 256) : (sf5 x z y n).tell (y.e % 2) = ofL (tornL x.sec y.sec n.toNat) := by
  have hd := (sf_c3 x z y).dead
  unfold sf5
  rw [crash_tell hd, fat_some (sf_c3 x z y).ok.ok0 (s := ofL y.sec) (by unfold sf3 Dk.put; simp [setF])]
  have hk : (keptN [(y.e % 2, n)] (y.e % 2)).getD 0 = n.toNat := by
    unfold keptN; simp; omega
  rw [hk]
  have ha : (sf3 x z y).at (y.e % 2) = ofL x.sec := by
    show (sf2 x z).at (y.e % 2) = _
    unfold sf2
    rw [pour_at, tell_put, if_neg (fun h => hz h.symm)]
    unfold sf1
    rw [pour_tell, tell_put, if_pos hxy.symm]
  rw [ha]
  exact torn_str
theorem sf_other (x z y : Hd) (hz : z.e % 2 ≠ y.e % 2) (n : Int) : (sf5 x z y n).tell (z.e % 2) = ofL z.sec := by
  have hd := (sf_c3 x z y).dead
  unfold sf5
  have hc : (sf3 x z y).c (z.e % 2) = none := by
    unfold sf3 Dk.put sf2 Dk.pour
    simp [setF, hz]
  rw [crash_tell hd, fat_none hc]
  show (sf2 x z).at (z.e % 2) = _
  unfold sf2
  rw [pour_at, tell_put, if_pos rfl]
end Go.Proofs.YtoebldemcgahnaaGreatDoor

/- Heads (layer 20): the heads behind HeadSafe's crash. -/
namespace Go.Proofs.YtoebldemcgahnaaGreatDoor
theorem pick_none {P : Int} {b : ByteArray} {i : Int} (h : decH b = (⟨0, 0, 0⟩, 11)) : pickH P b i = [] := by
  unfold pickH; rw [h, if_neg (fun h => absurd h.1 (by decide))]
theorem pick_one {P : Int} {b : ByteArray} {i : Int} {x : Hd} (h : decH b = (x, 0)) (hi : x.e % 2 = i) (r : x.r < P) : pickH P b i = [x] := by
  unfold pickH; rw [h, if_pos ⟨rfl, hi, r⟩]
theorem sort_pair (a z : Hd) : sortH [a, z] = [a, z] ∨ sortH [a, z] = [z, a] := by
  unfold sortH; dsimp only; split
  · exact .inr rfl
  · exact .inl rfl
theorem sf_heads (x z y : Hd) (gx : x.good) (gz : z.good) (gy : y.good) (hxy : x.e % 2 = y.e % 2) (hz : z.e % 2 ≠ y.e % 2) (hne : x.e ≠ y.e) (hlt : z.e < y.e) (rx : x.r < 47) (rz : z.r < 47) (ry : y.r < 47) {n : Int} (h0 : 0 ≤ n) (h1 : n ≤ 256) :
    ∃ L, (sf5 x z y n).heads = (L, 0) ∧ (1 ≤ L.length ∧ L.length ≤ 2) ∧ z ∈ L ∧ (∀ h ∈ L, h = z ∨ h = x ∨ h = y) ∧ (n = 256 → L = [y, z]) := by
  have hn : (sf5 x z y n).n = 64 := by
    have := (sf_c3 x z y).n
    unfold sf5 Dk.start Dk.crash
    split <;> exact this
  have hd : (sf5 x z y n).dead = false := rfl
  have hl : (layN (sf5 x z y n).n).2 = 0 := by rw [hn]; decide
  have hp : (layN (sf5 x z y n).n).1.2.2.2 = 47 := by rw [hn]; decide
  refine ⟨_, by rw [heads_ok hl hd, hp], ?_⟩
  obtain ⟨T, hT, hcase⟩ : ∃ T, pickH 47 ((sf5 x z y n).tell (y.e % 2)) (y.e % 2) = T ∧ ((T = [] ∧ n ≠ 256) ∨ (T = [x] ∧ n ≠ 256) ∨ T = [y]) := by
    refine ⟨_, rfl, ?_⟩
    rw [sf_torn x z y hxy hz h0 h1]
    have hdec : decH (ofL (tornL x.sec y.sec n.toNat)) = decL (tornL x.sec y.sec n.toNat) := by unfold decH; rw [ofL_list]
    by_cases hw : n = 256
    · subst hw
      have : decH (ofL (tornL x.sec y.sec (256 : Int).toNat)) = (y, 0) := by
        rw [hdec]; show decL (tornL x.sec y.sec 256) = _; rw [torn_whole]; exact dec_enc gy
      exact .inr (.inr (pick_one this rfl ry))
    · rcases torn_dec gx gy hne (i := n.toNat) (by omega) with h | h | h
      · exact .inr (.inl ⟨pick_one (hdec.trans h) hxy rx, hw⟩)
      · exact .inr (.inr (pick_one (hdec.trans h) rfl ry))
      · exact .inl ⟨pick_none (hdec.trans h), hw⟩
  have hZ : pickH 47 ((sf5 x z y n).tell (z.e % 2)) (z.e % 2) = [z] := by
    rw [sf_other x z y hz n]; exact pick_sec gz rfl rz
  have hy2 : y.e % 2 = 0 ∨ y.e % 2 = 1 := by omega
  have hA : accH 47 ((sf5 x z y n).tell 0) ((sf5 x z y n).tell 1) 2 = T ++ [z] ∨ accH 47 ((sf5 x z y n).tell 0) ((sf5 x z y n).tell 1) 2 = [z] ++ T := by
    show pickH 47 _ 0 ++ pickH 47 _ 1 = _ ∨ pickH 47 _ 0 ++ pickH 47 _ 1 = _
    rcases hy2 with h | h
    · have h2 : z.e % 2 = 1 := by omega
      rw [h] at hT; rw [h2] at hZ
      exact .inl (by rw [hT, hZ])
    · have h2 : z.e % 2 = 0 := by omega
      rw [h] at hT; rw [h2] at hZ
      exact .inr (by rw [hT, hZ])
  rcases hcase with ⟨rfl, hw⟩ | ⟨rfl, hw⟩ | rfl
  · have : accH 47 ((sf5 x z y n).tell 0) ((sf5 x z y n).tell 1) 2 = [z] := by rcases hA with h | h <;> simpa using h
    rw [this]
    exact ⟨by simp [sortH], by simp [sortH], fun h hh => .inl (by simpa [sortH] using hh), fun h => absurd h hw⟩
  · have : sortH (accH 47 ((sf5 x z y n).tell 0) ((sf5 x z y n).tell 1) 2) = [x, z] ∨ sortH (accH 47 ((sf5 x z y n).tell 0) ((sf5 x z y n).tell 1) 2) = [z, x] := by
      rcases hA with h | h
      · rw [h]; exact sort_pair x z
      · rw [h]; exact (sort_pair z x).symm
    rcases this with h | h <;> rw [h] <;> refine ⟨by simp, by simp, fun h hh => ?_, fun h => absurd h hw⟩ <;> (simp at hh; rcases hh with rfl | rfl <;> simp)
  · have : sortH (accH 47 ((sf5 x z y n).tell 0) ((sf5 x z y n).tell 1) 2) = [y, z] := by
      rcases hA with h | h
      · rw [h]; show sortH [y, z] = _; unfold sortH; dsimp only; rw [if_neg (by omega)]
      · rw [h]; show sortH [z, y] = _; unfold sortH; dsimp only; rw [if_pos hlt]
    rw [this]
    refine ⟨by simp, by simp, fun h hh => ?_, fun _ => rfl⟩
    simp at hh; rcases hh with rfl | rfl <;> simp
end Go.Proofs.YtoebldemcgahnaaGreatDoor
