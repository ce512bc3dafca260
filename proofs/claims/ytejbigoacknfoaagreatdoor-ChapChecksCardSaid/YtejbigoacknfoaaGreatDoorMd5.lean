/- MD5 by the program. -/
import Derived.Test.YtejbigoacknfoaaGreatDoorProg
import Derived.Test.YtejbigoacknfoaaGreatDoorOwnB
import Derived.Test.YtejbigoacknfoaaGreatDoorMd5S
set_option linter.unusedSectionVars false
set_option linter.unusedSimpArgs false
set_option linter.unusedVariables false
namespace Go.Proofs.YtejbigoacknfoaaGreatDoor
open Go Go.RowKit
set_option linter.unusedVariables false
set_option linter.unusedSectionVars false
set_option linter.unusedSimpArgs false
set_option maxRecDepth 100000
theorem infoU8 : (Tryz.prog.info? 5).map (fun i => (i.zero, i.size, i.bytes)) = some (some (.int .u8 0), 1, 1) := by kernel_rfl
def lenOf : Value → Nat | .slice _ n _ => n | _ => 0
theorem one_new (w : World) (x : UInt8) (e : TypeId) : ∀ j (y : UInt8), [x][j]? = some y → (w.alloc (.cells #[.int .u8 (x.toNat : Int)] e)).cell? ((⟨w.heap.size, 0, none⟩ : Addr).add j) = some (.int .u8 (y.toNat : Int)) := by
  intro j y hj
  cases j with
  | zero =>
    simp at hj
    subst hj
    rw [show (⟨w.heap.size, 0, none⟩ : Addr).add 0 = ⟨w.heap.size, 0, none⟩ from rfl, cell_of_row _ _ _ _ _ _ (heap_alloc_new _ _)]; rfl
  | succ j => simp at hj
theorem one_new' (w : World) (x : UInt8) (n : Int) (e : TypeId) (hn : n = (x.toNat : Int)) : ∀ j (y : UInt8), [x][j]? = some y → (w.alloc (.cells #[.int .u8 n] e)).cell? ((⟨w.heap.size, 0, none⟩ : Addr).add j) = some (.int .u8 (y.toNat : Int)) := by
  subst hn; exact one_new w x e
theorem shift_byte (n k : Nat) : ((n : Int) / 2 ^ (8 * k) % 256) = ((UInt8.ofNat (n / 256 ^ k)).toNat : Int) := by
  have h1 : (2 : Int) ^ (8 * k) = ((256 ^ k : Nat) : Int) := by
    rw [Int.pow_mul]; simp
  rw [h1, UInt8.toNat_ofNat']
  simp
def RPad1 (l : List UInt8) (w : World) (v : Value) (wr : World) : Prop :=
  ∃ k : Nat, k ≤ QMd.zerosN l.length ∧ OwnB wr w.heap.size 5 v (l ++ [128] ++ List.replicate k 0) ∧ Below w.heap.size w wr
def RPad2 (l : List UInt8) (w : World) (v i : Value) (wr : World) : Prop :=
  ∃ k : Nat, k ≤ 8 ∧ i = .int .i64 (k : Nat) ∧ OwnB wr w.heap.size 5 v (l ++ [128] ++ List.replicate (QMd.zerosN l.length) 0 ++ QMd.leN (8 * l.length) k) ∧ Below w.heap.size w wr
theorem mpadded_any (l : List UInt8) (w : World) (hl : l.length ≤ 100000) :
    Calls Tryz.prog 116 #[.string (bs l)] w fun e w' => ∃ v, e = .returned v ∧ OwnB w' w.heap.size 5 v (QMd.padL l) ∧ Below w.heap.size w w' := by
  obtain ⟨c, w1, hcv, hown, hb1, hs1⟩ := conv_own (P := Tryz.prog) 9 120 5 Tryz.underlying9 Tryz.underlying120 Tryz.underlying5 l (by omega) w
  have HO := hid hown; have HB := hid hb1; have HS := hid hs1; have hsz1 := hb1.size; clear hown hb1 hs1
  go_enter Tryz.func116, Tryz.ntmps116
  go_wp2_with (at_builtin; refine list_append_ownB rfl (.tmp 7) (.tmp 8) 120 rfl w.heap.size 5 Tryz.underlying120 infoU8 _ l rfl (HO.out.alloc _) ⟨w1.heap.size, 0, none⟩ 1 1 [128] rfl rfl (one_new w1 128 _) (by simp; omega) (by simp; omega) ?_; intro v2 w2 hown2 hgrow2)
  have b2 := below_appendB (HB.out.alloc hsz1 _) (HO.out.alloc _) hgrow2 (by simp; omega)
  have hZ : ∀ k : Nat, k < QMd.zerosN l.length → ((((l.length : Int) + 1 + (k : Int)) % 64) != 56) = true := by
    intro k hk
    unfold QMd.zerosN at hk
    simp; omega
  have hZ2 : ((((l.length : Int) + 1 + (QMd.zerosN l.length : Int)) % 64) != 56) = false := by
    unfold QMd.zerosN
    simp; omega
  have hz64 : QMd.zerosN l.length < 64 := by unfold QMd.zerosN; omega
  have HZ := hid hZ; have HZ2 := hid hZ2; clear hZ hZ2
  go_loopw [3] (fun v wr => RPad1 l w v wr) (fun v _ => QMd.zerosN l.length + l.length + 2 - lenOf v)
  case atStart => exact ⟨0, by omega, by simpa using hown2, b2⟩
  case round =>
    obtain ⟨k, hk, hown, hb⟩ := hrel
    have hB := hb.size
    obtain ⟨va, vc, hv⟩ := hown.form
    have e1 : (l ++ [128] ++ List.replicate k (0 : UInt8)).length = l.length + 1 + k := by simp; omega
    rw [e1] at hv
    clear e1
    subst hv
    by_cases hlt : k < QMd.zerosN l.length
    · have ht := HZ.out k hlt
      have HO := hid hown; clear hown
      go_wp2_with (at_builtin; refine list_append_ownB rfl (.tmp 14) (.tmp 15) 120 rfl w.heap.size 5 Tryz.underlying120 infoU8 _ (l ++ [128] ++ List.replicate k 0) rfl (HO.out.alloc _) ⟨wr.heap.size, 0, none⟩ 1 1 [0] rfl rfl (one_new wr 0 _) (by simp; omega) (by simp; omega) ?_; intro v3 w3 hown3 hgrow3; obtain ⟨a3, c3, h3⟩ := hown3.form)
      have H3 := hid hown3; clear hown3
      subst h3
      go_roundw
      case rel => exact ⟨k + 1, by omega, by rw [List.replicate_succ', ← List.append_assoc]; exact H3.out.len (by simp), below_appendB (hb.alloc hB _) (HO.out.alloc _) hgrow3 (by simp; omega)⟩
      case measure => simp [lenOf]; omega
    · obtain rfl : k = QMd.zerosN l.length := by omega
      have ht := HZ2.out
      have HO := hid hown; clear hown
      have hu : l.length * 8 ≤ 1000000 := by omega
      go_wp2
      go_loopw [3, 21] (fun v i wr => RPad2 l w v i wr) (fun _ i _ => 8 - (intOf i).toNat)
      case atStart => exact ⟨0, by omega, rfl, by rw [QMd.leN, List.append_nil]; exact HO.out, hb⟩
      case round =>
        clear hB hb HO ht
        obtain ⟨k, hk, rfl, hown, hb⟩ := hrel
        have hB := hb.size
        obtain ⟨va, vc, hv⟩ := hown.form
        have e1 : (l ++ [128] ++ List.replicate (QMd.zerosN l.length) (0 : UInt8) ++ QMd.leN (8 * l.length) k).length = l.length + 1 + QMd.zerosN l.length + k := by simp [QMd.leN_len]; omega
        rw [e1] at hv
        clear e1
        subst hv
        have HO := hid hown; clear hown
        by_cases hlt : k < 8
        · have hsn := hid (QMd.leN_snoc (8 * l.length) k)
          have HBY := hid (show (l.length : Int) * 8 / 2 ^ (8 * k) % 256 = ((UInt8.ofNat (8 * l.length / 256 ^ k)).toNat : Int) by
            rw [← shift_byte, show ((8 * l.length : Nat) : Int) = (l.length : Int) * 8 by omega])
          go_wp2_with (at_builtin; refine list_append_ownB rfl (.tmp 24) (.tmp 30) 120 rfl w.heap.size 5 Tryz.underlying120 infoU8 _ _ rfl (HO.out.alloc _) ⟨wr.heap.size, 0, none⟩ 1 1 [UInt8.ofNat (8 * l.length / 256 ^ k)] rfl rfl (one_new' wr _ _ _ HBY.out) (by simp [QMd.leN_len]; omega) (by simp; omega) ?_; intro v3 w3 hown3 hgrow3; obtain ⟨a3, c3, h3⟩ := hown3.form)
          have H3 := hid hown3; clear hown3
          subst h3
          go_roundw
          case rel => exact ⟨k + 1, by omega, by go_num, by rw [hsn.out, ← List.append_assoc]; exact H3.out.len (by simp [QMd.leN_len]), below_appendB (hb.alloc hB _) (HO.out.alloc _) hgrow3 (by simp; omega)⟩
          case measure => simp [intOf]; omega
        · obtain rfl : k = 8 := by omega
          go_wp2
          go_ret
          exact ⟨_, rfl, HO.out, hb⟩
end Go.Proofs.YtejbigoacknfoaaGreatDoor
