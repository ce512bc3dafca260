/- The number that a value is, between two: by the program, and by the document. -/
import Derived.Test.YtfeenkofnbefaaaGreatDoorNumber
import Derived.Test.YtfeenkofnbefaaaGreatDoorPairVal
import Derived.Test.YtfeenkofnbefaaaGreatDoorRange
import Derived.Test.YtfeenkofnbefaaaGreatDoorBase
import Derived.Maps.OwnSet
import Derived.Maps.Views
import Derived.Test.YtfeenkofnbefaaaGreatDoorChecked
import Derived.StringKeys
set_option linter.unusedSectionVars false
set_option linter.unusedSimpArgs false
set_option linter.unusedVariables false
namespace Go.Proofs.YtfeenkofnbefaaaGreatDoor
open Go Go.RowKit
set_option linter.unusedVariables false
set_option linter.unusedSectionVars false
set_option linter.unusedSimpArgs false
set_option maxRecDepth 100000
section
variable (l : List UInt8) (low high : Int) (w : World) (hl : l.length ≤ 1000000) (h0 : -9223372036854775808 ≤ low) (h1 : low ≤ 9223372036854775807) (g0 : -9223372036854775808 ≤ high) (g1 : high ≤ 9223372036854775807)
include hl h0 h1 g0 g1
theorem knumeral_any (hev : EV w) : Calls Tryz.prog 93 #[.string (bs l), .int .i64 low, .int .i64 high] w fun e w' => e = .returned (.tuple #[.int .i64 (numeP l low high).1, errV 31 (numeP l low high).2]) ∧ Below w.heap.size w w' := by
  have c := hid (knumber_any l w hl hev)
  unfold NumPost at c
  clear hev
  cases hn : numL l with
  | none =>
    have hp : numeP l low high = (0, 3) := by unfold numeP; rw [hn]
    rw [hp]
    rw [hn] at c
    clear hp hn
    go_enter Tryz.func93, Tryz.ntmps93
    go_wp2_with fail
    refine c.out.mono ?_
    rintro e w1 ⟨n, rfl, _, hb⟩
    go_wp2
    go_ret2
    exact ⟨rfl, hb⟩
  | some x =>
    have hle := numL_le l x hn
    rw [hn] at c
    by_cases hr : (x : Int) < low ∨ high < (x : Int)
    · have hp : numeP l low high = (0, 2) := by unfold numeP; rw [hn]; exact if_pos hr
      rw [hp]
      clear hp hn
      by_cases hr1 : (x : Int) < low
      · go_enter Tryz.func93, Tryz.ntmps93
        go_wp2_with fail
        refine c.out.mono ?_
        rintro e w1 ⟨n, rfl, hnx, hb⟩
        obtain rfl := hnx x rfl
        clear hr hnx
        go_wp2
        go_ret2
        exact ⟨rfl, hb⟩
      · have hr2 : high < (x : Int) := by rcases hr with h | h <;> omega
        go_enter Tryz.func93, Tryz.ntmps93
        go_wp2_with fail
        refine c.out.mono ?_
        rintro e w1 ⟨n, rfl, hnx, hb⟩
        obtain rfl := hnx x rfl
        clear hr hnx
        go_wp2
        go_ret2
        exact ⟨rfl, hb⟩
    · have hp : numeP l low high = ((x : Int), 0) := by unfold numeP; rw [hn]; exact if_neg hr
      rw [hp]
      have hr1 : low ≤ (x : Int) := by omega
      have hr2 : (x : Int) ≤ high := by omega
      clear hp hn
      go_enter Tryz.func93, Tryz.ntmps93
      go_wp2_with fail
      refine c.out.mono ?_
      rintro e w1 ⟨n, rfl, hnx, hb⟩
      obtain rfl := hnx x rfl
      clear hr hnx
      go_wp2
      go_ret2
      exact ⟨rfl, hb⟩
theorem rnumerals_any : Calls Tryz.prog 90 #[.string (bs l), .int .i64 low, .int .i64 high] w fun e w' => e = .returned (.tuple #[.int .i64 (numeP l low high).1, .int .i64 ((numeP l low high).2 : Nat)]) ∧ Below w.heap.size w w' := by
  have c := hid (rnumeral_any l w hl)
  cases hn : numL l with
  | none =>
    have hp : numeP l low high = (0, 3) := by unfold numeP; rw [hn]
    rw [hp]
    rw [hn] at c
    simp only [numI] at c
    clear hp hn
    go_enter Tryz.func90, Tryz.ntmps90
    go_wp2_with fail
    refine c.out.mono ?_
    rintro e w1 ⟨rfl, hb⟩
    go_wp2
    go_ret2
    exact ⟨rfl, hb⟩
  | some x =>
    have hle := numL_le l x hn
    rw [hn] at c
    simp only [numI] at c
    by_cases hr : (x : Int) < low ∨ high < (x : Int)
    · have hp : numeP l low high = (0, 2) := by unfold numeP; rw [hn]; exact if_pos hr
      rw [hp]
      have cw := fun w => hid (within_false (x : Int) low high w (by omega))
      clear hp hn
      go_enter Tryz.func90, Tryz.ntmps90
      go_wp2_with fail
      refine c.out.mono ?_
      rintro e w1 ⟨rfl, hb⟩
      go_wp2_with fail
      refine (cw _).out.mono ?_
      rintro e w2 ⟨rfl, rfl⟩
      go_wp2
      go_ret2
      exact ⟨rfl, hb⟩
    · have hp : numeP l low high = ((x : Int), 0) := by unfold numeP; rw [hn]; exact if_neg hr
      rw [hp]
      have cw := fun w => hid (within_true (x : Int) low high w (by omega) (by omega))
      clear hp hn
      go_enter Tryz.func90, Tryz.ntmps90
      go_wp2_with fail
      refine c.out.mono ?_
      rintro e w1 ⟨rfl, hb⟩
      go_wp2_with fail
      refine (cw _).out.mono ?_
      rintro e w2 ⟨rfl, rfl⟩
      go_wp2
      go_ret2
      exact ⟨rfl, hb⟩
end
end Go.Proofs.YtfeenkofnbefaaaGreatDoor

namespace Go.Proofs.YtfeenkofnbefaaaGreatDoor
open Go.RowKit
set_option linter.unusedVariables false
set_option maxRecDepth 100000
theorem infoStr1 : (Tryz.prog.info? 9).map (fun i => (i.zero, i.size, i.bytes)) = some (some (.string ⟨#[]⟩), 1, 16) := by kernel_rfl
def RGen (c : UInt8) (l : List UInt8) (w : World) (s i : Value) (wr : World) : Prop :=
  ∃ (ds : List (List UInt8)) (r : List UInt8), ds.length + r.count c = l.count c ∧ r.length ≤ l.length ∧ s = .string (bs r) ∧ i = .int .i64 (ds.length : Nat) ∧ splitL c l = ds ++ splitL c r ∧
    wr = w.alloc (.cells (sArr (ds ++ List.replicate (r.count c + 1) [])) 9)
set_option maxHeartbeats 1000000 in
theorem genSplit1_any (c : UInt8) (l : List UInt8) (w : World) (hl : l.length ≤ 1099511627776) :
    Calls Tryz.prog 128 #[.string (bs l), .string (bs [c]), .int .i64 0, .int .i64 (-1)] w fun e w' =>
      e = .returned (.slice (some ⟨w.heap.size, 0, none⟩) (l.count c + 1) (l.count c + 1)) ∧ w' = w.alloc (.cells (sArr (splitL c l)) 9) := by
  have c1 := fun l w => hid (sCount1_any l c w)
  have c2 := fun l w => hid (sIndex1_any l c w)
  have hcl : l.count c ≤ l.length := List.count_le_length
  have hmin : min (l.count c : Int) (l.length : Int) = (l.count c : Int) := by omega
  have hmk : ∀ w, (Instr.makeSlice 56 (.int .i64 ((l.count c : Int) + 1)) (.int .i64 ((l.count c : Int) + 1))).run Tryz.prog w = .ok (.slice (some ⟨w.heap.size, 0, none⟩) (l.count c + 1) (l.count c + 1)) (w.alloc (.cells (sArr (List.replicate (l.count c + 1) [])) 9)) := fun w => make_strs (P := Tryz.prog) 56 9 Tryz.underlying56 infoStr1 (l.count c + 1) (by omega) w
  have hsp : splitL c l = [] ++ splitL c l := rfl
  have Hsp := hid hsp; clear hsp
  generalize hn : l.count c = n at *
  have Hn := hid hn; clear hn
  have c1l := c1 l
  rw [Hn.out] at c1l
  clear c1
  go_enter Tryz.func128, Tryz.ntmps128
  go_wp2_with (go_at_call 110; refine (c1l _).out.mono ?_; rintro e w1 ⟨rfl, rfl⟩)
  have hs1 : IntKind.i64.wrap ((n : Int) + 1 - 1) = (n : Int) := by rw [IntKind.wrap_i64]; omega
  go_loopw [0, 10] (fun s i wr => RGen c l w1 s i wr) (fun _ i _ => n - (intOf i).toNat)
  case atStart => exact ⟨[], l, by simp, by omega, rfl, rfl, Hsp.out, by rw [Hn.out]; rfl⟩
  case round =>
    obtain ⟨ds, r, hcnt, hrl, rfl, rfl, heq, rfl⟩ := hrel
    rw [Hn.out] at hcnt
    have Heq := hid heq; clear heq
    have c2r := c2 r
    rcases idx_cases r c with ⟨h1, h2⟩ | ⟨i, h1, hi, h3, h4⟩
    · have h0 : r.count c = 0 := List.count_eq_zero_of_not_mem h2
      have hs := splitL_none c r h2
      rw [h0] at hcnt ⊢
      have hset : (sArr (ds ++ [[]])).setIfInBounds ds.length (.string (bs r)) = sArr (splitL c l) := by
        have := sArr_set ds 0 r
        rw [Heq.out, hs]; show (sArr (ds ++ [[]])).setIfInBounds ds.length (.string ⟨r.toArray⟩) = _; simpa using this
      have hg : (sArr (ds ++ [[]]))[ds.length]? = some (.string (bs [])) := by rw [sArr_get _ _ (by simp)]; simp [bs]
      clear h1 h2 hs h0 c2 c2r
      have Hset := hid hset; clear hset
      obtain rfl : ds.length = n := by omega
      go_wp2
      go_ret
      refine ⟨rfl, ?_⟩
      rw [Hset.out]
    · have h0 := count_idx c r i h3 h4
      have hs := splitL_idx c r i h3 h4
      rw [h1] at c2r
      have hset := sArr_set ds ((r.drop (i + 1)).count c + 1) (r.take i)
      rw [← h0] at hset
      rw [hs] at Heq
      have Hset := hid hset; have H0 := hid h0
      clear h3 h4 h1 hset hs c2 h0
      have hlt : (ds.length : Int) < (n : Int) := by have := H0.out; omega
      have s1 : IntKind.i64.wrap ((i : Int) + 1) = (i : Int) + 1 := by rw [IntKind.wrap_i64]; omega
      have s2 : (0 : Int) ≤ (i : Int) + 1 := by omega
      have s3 : ((i : Int) + 1).toNat = i + 1 := by omega
      have s4 : (i : Int) + 1 ≤ (r.length : Int) := by omega
      have s5 : (i : Int) ≤ (r.length : Int) := by omega
      have s6 : (ds.length : Int) < (n : Int) + 1 := by omega
      have hg : (sArr (ds ++ List.replicate (r.count c + 1) []))[ds.length]? = some (.string (bs [])) := by
        rw [sArr_get _ _ (by simp)]; simp [bs]
      go_wp2_with (go_at_call 129; refine (c2r _).out.mono ?_; rintro e w1 ⟨rfl, rfl⟩)
      go_roundw
      case rel =>
        refine ⟨ds ++ [r.take i], r.drop (i + 1), by rw [List.length_append, List.length_singleton, Hn.out]; have := H0.out; omega, by simp; omega, rfl, by simp, by rw [Heq.out]; simp, ?_⟩
        rw [← H0.out]; exact congrArg (fun a => w1.alloc (.cells a 9)) Hset.out
      case measure => simp [intOf]; omega
theorem split1_any (c : UInt8) (l : List UInt8) (w : World) (hl : l.length ≤ 1099511627776) :
    Calls Tryz.prog 97 #[.string (bs l), .string (bs [c])] w fun e w' =>
      e = .returned (.slice (some ⟨w.heap.size, 0, none⟩) (splitL c l).length (splitL c l).length) ∧ w' = w.alloc (.cells (sArr (splitL c l)) 9) := by
  have c1 := fun w => hid (genSplit1_any c l w hl)
  rw [splitL_length]
  generalize l.count c = n at *
  generalize splitL c l = ps at *
  go_enter Tryz.func97, Tryz.ntmps97
  go_wp2_with (go_at_call 128; refine (c1 _).out.mono ?_; rintro e w1 ⟨rfl, rfl⟩)
  go_ret
  exact ⟨rfl, rfl⟩
end Go.Proofs.YtfeenkofnbefaaaGreatDoor

namespace Go.Proofs.YtfeenkofnbefaaaGreatDoor
open Go Go.RowKit Go.Maps
set_option linter.unusedVariables false
set_option linter.unusedSectionVars false
set_option linter.unusedSimpArgs false
section
variable {P : Program} {T K E : TypeId}
theorem plainElem_form {v : Value} {d : DataW Unit} {p : List MemPlace} (h : plainElem P E v = some (d, p)) :
    (∃ x, v = .bool x ∧ d = .lit (.bool x)) ∨ (∃ q a, v = .int q a ∧ d = .lit (.int q a)) ∨ (∃ s : ByteArray, v = .string s ∧ d = .lit (.string s.data.toList)) := by
  unfold plainElem at h
  split at h
  · simp only [Option.some.injEq, Prod.mk.injEq] at h
    exact .inl ⟨_, rfl, h.1.symm⟩
  · split at h
    · rename_i hq
      simp only [Option.some.injEq, Prod.mk.injEq] at h
      exact .inr (.inl ⟨_, _, rfl, by rw [hq.1]; exact h.1.symm⟩)
    · cases h
  · split at h
    · simp only [Option.some.injEq, Prod.mk.injEq] at h
      exact .inr (.inr ⟨_, rfl, h.1.symm⟩)
    · cases h
  · cases h
theorem plainElem_inj {v v' : Value} {d : DataW Unit} {p p' : List MemPlace} (h : plainElem P E v = some (d, p)) (h' : plainElem P E v' = some (d, p')) : v = v' := by
  rcases plainElem_form h with ⟨x, rfl, rfl⟩ | ⟨q, a, rfl, rfl⟩ | ⟨s, rfl, rfl⟩ <;> rcases plainElem_form h' with ⟨x', rfl, e⟩ | ⟨q', a', rfl, e⟩ | ⟨s', rfl, e⟩ <;> simp at e
  · rw [e]
  · rw [e.1, e.2]
  · have : s = s' := by
      cases s; cases s'
      simpa using e
    rw [this]
/-- block b is a map of at most n entries whose element at any key v is f v (z's place: where there is none) -/
def MapAs (w : World) (P : Program) (K E : TypeId) (z : DataW Unit) (b n : Nat) (f : Value → Value) : Prop :=
  ∃ D : DataW Unit, IsMap D ∧ w.ownsMap P K (plainElem P E) b n D ∧ ∀ v kl, keyOf P K v = some kl → ∃ p, plainElem P E (f v) = some (D.atKey kl z, p)
theorem MapAs.made (w : World) (z0 : Value) (z : DataW Unit) (hz : ∃ p, plainElem P E z0 = some (z, p)) : MapAs (w.alloc (.map #[] 0)) P K E z w.heap.size 0 (fun _ => z0) :=
  ⟨.map [], isMap_empty, World.ownsMap_made _ _ _ _, fun v kl h => hz⟩
theorem MapAs.kept {w w' : World} {z : DataW Unit} {b n : Nat} {f : Value → Value} {row : Option Nat} (h : MapAs w P K E z b n f) (hg : w.grownBy w' row) (hne : some b ≠ row) : MapAs w' P K E z b n f := by
  obtain ⟨D, h1, h2, h3⟩ := h
  exact ⟨D, h1, h2.kept hg hne, h3⟩
theorem MapAs.lt {w : World} {z : DataW Unit} {b n : Nat} {f : Value → Value} (h : MapAs w P K E z b n f) : b < w.heap.size := by
  obtain ⟨D, h1, h2, h3⟩ := h
  exact h2.lt
theorem MapAs.same {w w' : World} {z : DataW Unit} {b n : Nat} {f : Value → Value} (h : MapAs w P K E z b n f) (hb : w'.heap[b]? = w.heap[b]?) : MapAs w' P K E z b n f := by
  obtain ⟨D, h1, ⟨es, clock, e1, e2⟩, h3⟩ := h
  exact ⟨D, h1, ⟨es, clock, hb.trans e1, e2⟩, h3⟩
theorem MapAs.below {w w' : World} {z : DataW Unit} {b n : Nat} {f : Value → Value} (h : MapAs w P K E z b n f) (hb : Below w.heap.size w w') : MapAs w' P K E z b n f :=
  h.same (hb.block b h.lt)
theorem MapAs.fn {w : World} {z : DataW Unit} {b n : Nat} {f g : Value → Value} (h : MapAs w P K E z b n f) (hfg : ∀ v kl, keyOf P K v = some kl → f v = g v) : MapAs w P K E z b n g := by
  obtain ⟨D, h1, h2, h3⟩ := h
  exact ⟨D, h1, h2, fun v kl hk => by rw [← hfg v kl hk]; exact h3 v kl hk⟩
theorem MapAs.mono {w : World} {z : DataW Unit} {b n n' : Nat} {f : Value → Value} (h : MapAs w P K E z b n f) (hn : n ≤ n') : MapAs w P K E z b n' f := by
  obtain ⟨D, h1, h2, h3⟩ := h
  exact ⟨D, h1, h2.mono hn, h3⟩
theorem MapAs.look {w : World} {z : DataW Unit} {b n : Nat} {f : Value → Value} (h : MapAs w P K E z b n f) (L : Keyed P K) (ht : P.underlying T = some (.map K E)) {z0 : Value} (hz : (zeroValue E).run P w = .ok z0 w) (hz0 : ∃ p, plainElem P E z0 = some (z, p))
    {key : Value} {kl : Lit} (hkey : keyOf P K key = some kl) : (Instr.lookup T (.map (some b)) key false).run P w = .ok (f key) w := by
  obtain ⟨D, h1, h2, h3⟩ := h
  obtain ⟨zp, hz0⟩ := hz0
  obtain ⟨v, ps, hrun, hv⟩ := h2.lookup L ht hz hz0 hkey
  obtain ⟨p, hp⟩ := h3 key kl hkey
  rw [hrun, plainElem_inj hv hp]
theorem MapAs.put {w : World} {z : DataW Unit} {b n : Nat} {f : Value → Value} (h : MapAs w P K E z b n f) (L : Keyed P K) (ht : P.underlying T = some (.map K E)) (hn : n < maxLen)
    {key val : Value} {kl : Lit} (hkey : keyOf P K key = some kl) (hv : ∃ d p, plainElem (H := Unit) P E val = some (d, p)) :
    ∃ w', (Instr.mapUpdate T (.map (some b)) key val).run P w = .ok () w' ∧ (∀ g : Value → Value, g key = val → (∀ v, v ≠ key → g v = f v) → MapAs w' P K E z b (n + 1) g) ∧ w.grownBy w' (some b) := by
  obtain ⟨D, h1, h2, h3⟩ := h
  obtain ⟨d, ps, hv⟩ := hv
  obtain ⟨w', hrun, hown, hg⟩ := h2.update L ht hn hkey hv
  refine ⟨w', hrun, fun g e1 e2 => ⟨_, h1.put kl d, hown, fun v kl' hk => ?_⟩, hg⟩
  by_cases he : v = key
  · subst he
    rw [hkey] at hk
    cases hk
    rw [e1, atKey_put_same h1 (L.key hkey)]
    exact ⟨ps, hv⟩
  · rw [e2 v he, atKey_put_other (fun e => he (L.inj hk (by rw [e]; exact hkey)))]
    exact h3 v kl' hk
end
end Go.Proofs.YtfeenkofnbefaaaGreatDoor

namespace Go.Proofs.YtfeenkofnbefaaaGreatDoor
open Go Go.RowKit Go.Maps
set_option linter.unusedVariables false
set_option linter.unusedSectionVars false
set_option linter.unusedSimpArgs false
theorem textLaw : Keyed Tryz.prog 9 := string_keyed Tryz.underlying9
theorem zeroSeen (w : World) : (zeroValue 4).run Tryz.prog w = .ok (.bool false) w := by kernel_rfl
def seenF (l : List (List UInt8)) (v : Value) : Value := match v with | .string b => .bool (l.contains b.data.toList) | _ => .bool false
abbrev SeenM (w : World) (b n : Nat) (l : List (List UInt8)) : Prop := MapAs w Tryz.prog 9 4 (.lit (.bool false)) b n (seenF l)
theorem elemSeen (x : Bool) : ∃ p, plainElem (H := Unit) Tryz.prog 4 (.bool x) = some (.lit (.bool x), p) := ⟨[], plainElem_bool Tryz.underlying4 x⟩
theorem textKey (s : List UInt8) (h : s.length ≤ 9223372036854775807) : keyOf Tryz.prog 9 (.string (bs s)) = some (.string s) := by
  have := WideMaps.keyOf_string_mk (P := Tryz.prog) Tryz.underlying9 (s := bs s) (by unfold maxLen; simpa [bs, ByteArray.size] using h)
  rw [this]; simp [bs]
theorem SeenM.made (w : World) : SeenM (w.alloc (.map #[] 0)) w.heap.size 0 [] :=
  (MapAs.made w (.bool false) _ (elemSeen false)).fn fun v kl h => by cases v <;> rfl
theorem SeenM.look {w : World} {b n : Nat} {l : List (List UInt8)} (h : SeenM w b n l) (s : List UInt8) (hs : s.length ≤ 9223372036854775807) :
    (Instr.lookup 142 (.map (some b)) (.string (bs s)) false).run Tryz.prog w = .ok (.bool (l.contains s)) w := by
  have := MapAs.look h textLaw Tryz.underlying142 (zeroSeen w) (elemSeen false) (textKey s hs)
  rw [this]; simp [seenF, bs]
theorem SeenM.put {w : World} {b n : Nat} {l : List (List UInt8)} (h : SeenM w b n l) (hn : n < 1000000) (s : List UInt8) (hs : s.length ≤ 9223372036854775807) :
    ∃ w', (Instr.mapUpdate 142 (.map (some b)) (.string (bs s)) (.bool true)).run Tryz.prog w = .ok () w' ∧ SeenM w' b (n + 1) (s :: l) ∧ w.grownBy w' (some b) := by
  obtain ⟨w', hr, hf, hg⟩ := MapAs.put h textLaw Tryz.underlying142 (by unfold maxLen; omega) (textKey s hs) ⟨_, elemSeen true⟩
  refine ⟨w', hr, hf _ (by simp [seenF, bs]) (fun v hv => ?_), hg⟩
  cases v <;> try rfl
  rename_i t
  simp only [seenF, List.contains_cons]
  have : (t.data.toList == s) = false := by
    rw [beq_eq_false_iff_ne]
    rintro e
    apply hv
    rw [← e]
    cases t
    simp [bs]
  rw [this, Bool.false_or]
end Go.Proofs.YtfeenkofnbefaaaGreatDoor
