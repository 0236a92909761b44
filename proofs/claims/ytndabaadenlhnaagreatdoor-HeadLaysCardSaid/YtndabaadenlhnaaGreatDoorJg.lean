/- Heads (layer 20): lists of heads in memory; they are sorted. -/
import Derived.Test.YtndabaadenlhnaaGreatDoorHa
import Derived.Test.YtndabaadenlhnaaGreatDoorFr
import Derived.Test.YtndabaadenlhnaaGreatDoorBk
import Derived.Test.YtndabaadenlhnaaGreatDoorSh
import Derived.Test.YtndabaadenlhnaaGreatDoorSf
import Derived.Shelf.SlSortCmp.SmallK
namespace Go.Proofs.YtndabaadenlhnaaGreatDoor
open Go.RowKit Go.Sort
instance : Inhabited Hd := ⟨⟨0, 0, 0⟩⟩
def Hd.enc (h : Hd) : List Value := [.int .u32 h.e, .int .i64 h.r, .int .u32 h.f]
theorem Hd.enc_v (h : Hd) : Value.agg h.enc.toArray = h.v := rfl
def cmpI (x y : Int) : Int := if x < y then -1 else if y < x then 1 else 0
theorem isNaN_u32 (x : Int) (w : World) : Calls Tryz.prog 80 #[.int .u32 x] w fun e w' => e = .returned (.bool false) ∧ w' = w := by
  have q : (x != x) = false := by simp
  go_enter Tryz.func80, Tryz.ntmps80
  go_wp2_with fail
  go_ret
  exact ⟨rfl, rfl⟩
theorem cmp_u32 (x y : Int) (w : World) : Calls Tryz.prog 52 #[.int .u32 x, .int .u32 y] w fun e w' => e = .returned (.int .i64 (cmpI x y)) ∧ w' = w := by
  have N := Lib.hid isNaN_u32
  by_cases h1 : x < y
  · rw [show cmpI x y = -1 by unfold cmpI; rw [if_pos h1]]
    go_enter Tryz.func52, Tryz.ntmps52
    go_wp2_with fail
    refine (N.out _ _).mono ?_; rintro e w' ⟨rfl, rfl⟩
    go_wp2_with fail
    refine (N.out _ _).mono ?_; rintro e w' ⟨rfl, rfl⟩
    go_wp2_with fail
    go_ret
    exact ⟨rfl, rfl⟩
  · by_cases h2 : y < x
    · rw [show cmpI x y = 1 by unfold cmpI; rw [if_neg h1, if_pos h2]]
      go_enter Tryz.func52, Tryz.ntmps52
      go_wp2_with fail
      refine (N.out _ _).mono ?_; rintro e w' ⟨rfl, rfl⟩
      go_wp2_with fail
      refine (N.out _ _).mono ?_; rintro e w' ⟨rfl, rfl⟩
      go_wp2_with fail
      go_ret
      exact ⟨rfl, rfl⟩
    · rw [show cmpI x y = 0 by unfold cmpI; rw [if_neg h1, if_neg h2]]
      go_enter Tryz.func52, Tryz.ntmps52
      go_wp2_with fail
      refine (N.out _ _).mono ?_; rintro e w' ⟨rfl, rfl⟩
      go_wp2_with fail
      refine (N.out _ _).mono ?_; rintro e w' ⟨rfl, rfl⟩
      go_wp2_with fail
      go_ret
      exact ⟨rfl, rfl⟩
set_option maxHeartbeats 1000000 in
theorem head_Read_cmp (x y : Hd) (W : World) : Calls Tryz.prog 51 #[.agg x.enc.toArray, .agg y.enc.toArray] W fun e w' => e = .returned (.int .i64 (cmpI y.e x.e)) ∧ ∃ q os', w' = grow (W.drewN q) os' := by
  have hcon := Lib.hid (fun W' => cmp_u32 y.e x.e W')
  obtain ⟨c, hc⟩ : ∃ c, c = cmpI y.e x.e := ⟨_, rfl⟩
  rw [← hc] at hcon ⊢
  clear hc
  show Calls _ _ #[.agg #[.int .u32 x.e, .int .i64 x.r, .int .u32 x.f], .agg #[.int .u32 y.e, .int .i64 y.r, .int .u32 y.f]] _ _
  go_enter Tryz.func51, Tryz.ntmps51
  go_wp2_with fail
  refine (hcon.out _).mono ?_; rintro e w' ⟨rfl, rfl⟩
  go_wp2_with fail
  go_ret
  exact ⟨rfl, 0, _, by rw [alloc_eq_grow, alloc_eq_grow, grow_grow]; rfl⟩
/-- Heads in memory, three cells each. -/
structure HdsAt (w : World) (b off : Nat) (l : List Hd) : Prop where
  lt : l ≠ [] → b < w.heap.size
  ce : ∀ i (h : i < l.length), w.cell? ⟨b, off + i * 3, none⟩ = some (.int .u32 l[i].e)
  cr : ∀ i (h : i < l.length), w.cell? ⟨b, off + i * 3 + 1, none⟩ = some (.int .i64 l[i].r)
  cf : ∀ i (h : i < l.length), w.cell? ⟨b, off + i * 3 + 2, none⟩ = some (.int .u32 l[i].f)
theorem HdsAt.below {w w' : World} {b off : Nat} {l : List Hd} (h : HdsAt w b off l) (hb : Below w.heap.size w w') : HdsAt w' b off l := by
  by_cases hl : l = []
  · subst hl
    exact ⟨fun h => absurd rfl h, fun i h => absurd h (by simp), fun i h => absurd h (by simp), fun i h => absurd h (by simp)⟩
  · have hlt := h.lt hl
    exact ⟨fun _ => Nat.lt_of_lt_of_le hlt hb.size, fun i hi => by rw [hb.cell (p := ⟨b, off + i * 3, none⟩) hlt]; exact h.ce i hi, fun i hi => by rw [hb.cell (p := ⟨b, off + i * 3 + 1, none⟩) hlt]; exact h.cr i hi, fun i hi => by rw [hb.cell (p := ⟨b, off + i * 3 + 2, none⟩) hlt]; exact h.cf i hi⟩
def SlHds (w : World) (v : Value) (l : List Hd) : Prop := (v = .slice none 0 0 ∧ l = []) ∨ ∃ b off cap, v = .slice (some ⟨b, off, none⟩) l.length cap ∧ l.length ≤ cap ∧ HdsAt w b off l
theorem SlHds.below {w w' : World} {v : Value} {l : List Hd} (h : SlHds w v l) (hb : Below w.heap.size w w') : SlHds w' v l := by
  rcases h with h | ⟨b, off, cap, e, hc, h⟩
  · exact .inl h
  · exact .inr ⟨b, off, cap, e, hc, h.below hb⟩
def hdCells (l : List Hd) : List Value := (l.map Hd.enc).flatten
theorem hdCells_len : ∀ l : List Hd, (hdCells l).length = l.length * 3
  | [] => rfl
  | x :: l => by
    have e : hdCells (x :: l) = x.enc ++ hdCells l := by simp [hdCells]
    rw [e, List.length_append, hdCells_len l, List.length_cons]
    simp [Hd.enc]; omega
theorem hdCells_append (a b : List Hd) : hdCells (a ++ b) = hdCells a ++ hdCells b := by simp [hdCells]
theorem hdCells_get : ∀ (l : List Hd) (i j : Nat) (h : i < l.length), j < 3 → (hdCells l)[i * 3 + j]? = l[i].enc[j]?
  | [], i, j, h, _ => absurd h (by simp)
  | x :: l, 0, j, _, hj => by
    have e : hdCells (x :: l) = x.enc ++ hdCells l := by simp [hdCells]
    rw [e, List.getElem?_append_left (by simp [Hd.enc]; omega)]; simp
  | x :: l, i + 1, j, h, hj => by
    have e : hdCells (x :: l) = x.enc ++ hdCells l := by simp [hdCells]
    rw [e, List.getElem?_append_right (by simp [Hd.enc]; omega)]
    have := hdCells_get l i j (by simpa using h) hj
    simp only [Hd.enc, List.length_cons, List.length_nil] at this ⊢
    rw [show (i + 1) * 3 + j - 3 = i * 3 + j by omega]
    simpa using this
end Go.Proofs.YtndabaadenlhnaaGreatDoor
