/- A text in pieces of so many bytes: the program and the document make the same row of strings. -/
import Derived.Test.YtdgfeanjeoendaaDoorProg
import Derived.Test.YtdgfeanjeoendaaDoorWithin
namespace Go.Proofs.YtdgfeanjeoendaaDoor
open Go.RowKit
set_option linter.unusedVariables false
set_option maxRecDepth 100000
def piece (size : Nat) (l : List UInt8) (k : Nat) : Value := .string (bs ((l.drop (k * size)).take size))
def piecesN (size : Nat) (l : List UInt8) : Nat := if l.length = 0 then 1 else (l.length + size - 1) / size
def pieces (size : Nat) (l : List UInt8) : List Value := (List.range (piecesN size l)).map (piece size l)
theorem infoStr : (Tryd.prog.info? 9).map (fun i => (i.zero, i.size, i.bytes)) = some (some (.string ⟨#[]⟩), 1, 16) := by kernel_rfl
theorem gsplit_any (l : List UInt8) (size : Nat) (w : World) (hl : l.length ≤ 1500) (h1 : 1 ≤ size) (h2 : size ≤ 20000) :
    Calls Tryd.prog 14 #[.string (bs l), .int .i64 size] w fun e w' => (∃ v, e = .returned (.tuple #[v, .nilIface]) ∧ w'.ownsRow w.heap.size 9 1 v (piecesN size l) (pieces size l)) ∧ Below w.heap.size w w' := by
  go_enter Tryd.func14, Tryd.ntmps14
  go_wp2
  go_loopw [0, 6] (fun s v wr => ∃ k : Nat, k * size ≤ l.length ∧ (k = 0 ∨ k * size < l.length) ∧ s = .string (bs (l.drop (k * size))) ∧ wr.ownsRow w.heap.size 9 1 v k ((List.range k).map (piece size l)) ∧ Below w.heap.size w wr) (fun s _ _ => strLen s)
  case atStart => exact ⟨0, by omega, .inl rfl, by simp, World.ownsRow_nil _ _ _ _, Below.refl _ _⟩
  case round =>
    obtain ⟨k, hk, hk0, rfl, hown, hb⟩ := hrel
    have hB := hb.size
    have hdl : (l.drop (k * size)).length = l.length - k * size := by simp
    have hk1500 : k ≤ 1500 := by
      have := Nat.le_mul_of_pos_right k h1
      omega
    by_cases hlt : size < l.length - k * size
    · have hnext : (l.drop (k * size)).drop size = l.drop ((k + 1) * size) := by rw [List.drop_drop, Nat.succ_mul]
      have hpiece : Value.string (bs ((l.drop (k * size)).take size)) = piece size l k := rfl
      have Hnext := hid hnext; have Hp := hid hpiece; clear hnext hpiece
      have hsucc : (List.range (k + 1)).map (piece size l) = (List.range k).map (piece size l) ++ [piece size l k] := by rw [List.range_succ, List.map_append]; rfl
      have Hs := hid hsucc; clear hsucc
      have hk2 : (k + 1) * size < l.length := by rw [Nat.succ_mul]; omega
      clear hk0
      have hk3 : (k + 1) * size = k * size + size := Nat.succ_mul _ _
      have Hk3 := hid hk3; clear hk3
      have hle : size ≤ l.length - k * size := by omega
      generalize (List.range k).map (piece size l) = xs at *
      generalize l.drop (k * size) = r at *
      have htk : List.take (l.length - k * size) r = r := List.take_of_length_le (by omega)
      have hown0 := hown.alloc (.cells #[.string (bs (r.take size))] 9)
      go_wp2
      go_region_law (refine step_append_own rfl (.tmp 18) (.tmp 22) 22 rfl w.heap.size 9 (.string ⟨#[]⟩) 1 16 Tryd.underlying22 infoStr rfl (by decide) _ k xs (by simp [Act.eval]) hown0 ⟨wr.heap.size, 0, none⟩ 1 1 [.string (bs (r.take size))] (by simp [Act.eval]) rfl (cell_one_new _ _ _) (by simp [Value.oneCell']) (by unfold maxLen; omega) (by omega) (by simp; omega) ?_; intro v' w1 hown1 hgrow _)
      simp only [List.getElem_toArray, List.getElem_cons_succ, List.getElem_cons_zero, Act.put, List.setIfInBounds_toArray, List.set_cons_succ, List.set_cons_zero]
      go_wp2
      go_roundw
      case rel => exact ⟨k + 1, Nat.le_of_lt hk2, .inr hk2, by rw [Hnext.out], by rw [Hs.out, ← Hp.out]; exact hown1, below_append ((hb.alloc hB _).drew) hown0 hgrow (by simp; omega)⟩
      case measure => simp [strLen, bs_size]; omega
    · have hK : piecesN size l = k + 1 := by
        unfold piecesN
        split
        · rename_i h0
          rcases hk0 with rfl | h <;> omega
        · rename_i h0
          apply Nat.div_eq_of_lt_le
          · rw [Nat.succ_mul]
            rcases hk0 with rfl | h <;> omega
          · rw [Nat.succ_mul, Nat.succ_mul]; omega
      clear hk0
      have hp : (List.range (piecesN size l)).map (piece size l) = (List.range k).map (piece size l) ++ [.string (bs (l.drop (k * size)))] := by
        rw [hK, List.range_succ, List.map_append]
        simp only [List.map_cons, List.map_nil, piece]
        rw [List.take_of_length_le (by omega)]
      have Hp := hid hp; have HK := hid hK; clear hp hK
      generalize (List.range k).map (piece size l) = xs at *
      generalize l.drop (k * size) = r at *
      have hown0 := hown.alloc (.cells #[.string (bs r)] 9)
      go_wp2_with (at_builtin; refine list_append_own rfl (.tmp 27) (.tmp 29) 22 rfl w.heap.size 9 (.string ⟨#[]⟩) 1 16 Tryd.underlying22 infoStr rfl (by decide) _ k xs rfl hown0 ⟨wr.heap.size, 0, none⟩ 1 1 [.string (bs r)] rfl rfl (cell_one_new _ _ _) (by simp [Value.oneCell']) (by unfold maxLen; omega) (by omega) (by simp; omega) ?_; intro v' w1 hown1 hgrow _)
      go_ret2
      refine ⟨⟨v', rfl, ?_⟩, below_append (hb.alloc hB _) hown0 hgrow (by simp; omega)⟩
      rw [pieces, Hp.out, HK.out]
      exact hown1
def RSplit (l : List UInt8) (size : Nat) (w : World) (v i : Value) (wr : World) : Prop :=
  ∃ k : Nat, (k ≤ 1 ∨ (k - 1) * size < l.length) ∧ k ≤ 1501 ∧ i = .int .i64 (k * size : Nat) ∧ wr.ownsRow w.heap.size 9 1 v k ((List.range k).map (piece size l)) ∧ Below w.heap.size w wr
theorem rsplit_any (l : List UInt8) (size : Nat) (w : World) (hl : l.length ≤ 1500) (h1 : 1 ≤ size) (h2 : size ≤ 20000) :
    Calls Tryd.prog 13 #[.string (bs l), .int .i64 size] w fun e w' => (∃ v, e = .returned (.tuple #[v, .int .i64 0]) ∧ w'.ownsRow w.heap.size 9 1 v (piecesN size l) (pieces size l)) ∧ Below w.heap.size w w' := by
  go_enter Tryd.func13, Tryd.ntmps13
  go_wp2_with (go_at_call 59; refine (within_true _ _ _ _ (by omega) (by omega)).mono ?_; rintro e w' ⟨rfl, rfl⟩)
  go_loopw [6, 7] (fun v i wr => RSplit l size w v i wr) (fun _ i _ => l.length + size - (intOf i).toNat)
  case atStart => exact ⟨0, .inl (by omega), by omega, by simp, World.ownsRow_nil _ _ _ _, Below.refl _ _⟩
  case round =>
    obtain ⟨k, hk, hkb, rfl, hown, hb⟩ := hrel
    have hB := hb.size
    by_cases hlt : k = 0 ∨ k * size < l.length
    · have hk2 : (k + 1) * size = k * size + size := Nat.succ_mul _ _
      have hkl : k ≤ l.length := by
        rcases hlt with h | h
        · omega
        · have := Nat.le_mul_of_pos_right k h1
          omega
      have hi : k * size ≤ l.length := by
        rcases hlt with rfl | h <;> omega
      have hsucc : (List.range (k + 1)).map (piece size l) = (List.range k).map (piece size l) ++ [.string (bs ((l.drop (k * size)).take size))] := by rw [List.range_succ, List.map_append]; rfl
      have Hs := hid hsucc; clear hsucc
      have hz : (((k * size : Nat) : Int) == 0) = true ∨ ((((k * size : Nat) : Int) == 0) = false ∧ k * size < l.length) := by
        by_cases h0 : k * size = 0
        · exact .inl (by rw [h0]; rfl)
        · refine .inr ⟨by rw [beq_eq_false_iff_ne]; omega, ?_⟩
          rcases hlt with rfl | h
          · simp at h0
          · exact h
      have hlt' : k + 1 ≤ 1 ∨ (k + 1 - 1) * size < l.length := by
        rcases hlt with h | h
        · exact .inl (by omega)
        · exact .inr h
      have Hlt' := hid hlt'; clear hlt'
      have Hk2 := hid hk2; clear hk2
      clear hlt hk hkb
      generalize (List.range k).map (piece size l) = xs at *
      generalize hj : k * size = j at *
      clear hj
      rcases hz with hz | ⟨hz, hjl⟩
      all_goals
        by_cases hfull : j + size ≤ l.length
        · have hm : (if (j : Int) + (size : Int) < (l.length : Int) then (j : Int) + (size : Int) else (l.length : Int)) = ((j + size : Nat) : Int) := by split <;> omega
          have hA : List.drop j (List.take (j + size) l) = List.take size (List.drop j l) := by rw [List.drop_take, Nat.add_sub_cancel_left]
          go_wp2_with (at_builtin; refine list_append_own rfl (.tmp 22) (.tmp 32) 22 rfl w.heap.size 9 (.string ⟨#[]⟩) 1 16 Tryd.underlying22 infoStr rfl (by decide) u6 k xs rfl (hown.alloc _) ⟨wr.heap.size, 0, none⟩ 1 1 [_] rfl rfl (cell_one_new _ _ _) (by simp [Value.oneCell']) (by unfold maxLen; omega) (by omega) (by simp; omega) ?_; intro v' w1 hown1 hgrow _)
          go_roundw
          case rel => exact ⟨k + 1, Hlt'.out, by omega, by rw [Hk2.out]; go_num, by rw [Hs.out]; exact hown1, below_append (hb.alloc hB _) (hown.alloc _) hgrow (by simp; omega)⟩
          case measure => simp [intOf]; omega
        · have hA : List.take size (List.drop j l) = List.drop j l := List.take_of_length_le (by simp; omega)
          rw [hA] at Hs
          clear hA
          have hm : (if (j : Int) + (size : Int) < (l.length : Int) then (j : Int) + (size : Int) else (l.length : Int)) = (l.length : Int) := by split <;> omega
          go_wp2_with (at_builtin; refine list_append_own rfl (.tmp 22) (.tmp 32) 22 rfl w.heap.size 9 (.string ⟨#[]⟩) 1 16 Tryd.underlying22 infoStr rfl (by decide) u6 k xs rfl (hown.alloc _) ⟨wr.heap.size, 0, none⟩ 1 1 [_] rfl rfl (cell_one_new _ _ _) (by simp [Value.oneCell']) (by unfold maxLen; omega) (by omega) (by simp; omega) ?_; intro v' w1 hown1 hgrow _)
          go_roundw
          case rel => exact ⟨k + 1, Hlt'.out, by omega, by rw [Hk2.out]; go_num, by rw [Hs.out]; exact hown1, below_append (hb.alloc hB _) (hown.alloc _) hgrow (by simp; omega)⟩
          case measure => simp [intOf]; omega
    · have hk1 : 1 ≤ k := by omega
      have hge : l.length ≤ k * size := by omega
      have hj0 : 1 ≤ k * size := Nat.mul_pos hk1 h1
      have h0 : (((k * size : Nat) : Int) == 0) = false := by rw [beq_eq_false_iff_ne]; omega
      have hK : piecesN size l = k := by
        unfold piecesN
        have hs : k * size = (k - 1) * size + size := by
          conv => lhs; rw [show k = (k - 1) + 1 by omega]
          rw [Nat.succ_mul]
        split
        · rename_i h00
          rcases hk with h | h <;> omega
        · rename_i h00
          have hlo : (k - 1) * size < l.length := by
            rcases hk with h | h
            · rw [show k - 1 = 0 by omega]; omega
            · exact h
          apply Nat.div_eq_of_lt_le
          · omega
          · rw [Nat.succ_mul]; omega
      have HK := hid hK; clear hK hk hlt
      have hp : (List.range k).map (piece size l) = pieces size l := by rw [pieces, HK.out]
      rw [hp] at hown
      clear hp
      generalize k * size = j at *
      go_wp2
      go_ret2
      refine ⟨⟨u6, rfl, ?_⟩, hb⟩
      rw [HK.out]
      exact hown
end Go.Proofs.YtdgfeanjeoendaaDoor
