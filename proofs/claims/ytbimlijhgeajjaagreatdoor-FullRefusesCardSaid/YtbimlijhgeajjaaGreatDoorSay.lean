/- m[k] = x in two steps, of a map of strings: the entry, then the store. -/
import Derived.Test.YtbimlijhgeajjaaGreatDoorNames
import Derived.WideKeyEntry
import Derived.Test.YtbimlijhgeajjaaGreatDoorFullRef
import Derived.Test.YtbimlijhgeajjaaGreatDoorAhsW
import Derived.Test.YtbimlijhgeajjaaGreatDoorHeadMkR
import Derived.Test.YtbimlijhgeajjaaGreatDoorGhost
set_option linter.unusedSectionVars false
set_option linter.unusedSimpArgs false
set_option linter.unusedVariables false
namespace Go.Proofs.YtbimlijhgeajjaaGreatDoor
open Go Go.RowKit Go.Maps
open Go.ChangeMaps (heap_setBlock_same heap_setBlock_other)
open Go.WideMaps (string_law)
set_option linter.unusedVariables false
set_option linter.unusedSectionVars false
set_option linter.unusedSimpArgs false
/-- an entry is there, and is to be stored into -/
def PendN (w1 : World) (b n : Nat) (g : List UInt8 → Nat) (s : List UInt8) (st : Nat) : Prop :=
  ∃ (es1 : Array MapEntry) (c1 : Nat), w1.heap[b]? = some (.map es1 c1) ∧ ∀ (w2 : World) (x : Nat), x ≤ 18446744073709551615 → w2.heap[b]? = some (.map es1 c1) →
    ∃ w3, (Instr.entryStore 115 (.map (some b)) (goInt st) (.int .u64 (x : Int))).run Tryz.prog w2 = .ok () w3 ∧ NameM w3 b (n + 1) (setN g s x) ∧ w2.grownBy w3 (some b)
theorem NameM.entry {w : World} {b n : Nat} {g : List UInt8 → Nat} (h : NameM w b n g) (hn : n < 1000000) (s : List UInt8) (hs : s.length ≤ 9223372036854775807) :
    ∃ (v0 : Value) (st : Nat) (w1 : World), (Instr.mapEntry 115 (.map (some b)) (.string (bs s))).run Tryz.prog w = .ok (.tuple #[v0, goInt st]) w1 ∧ w.grownBy w1 (some b) ∧ PendN w1 b n g s st := by
  have h' := h
  obtain ⟨D, h1, ⟨es, clock, hb, F, hsz, hD⟩, h3⟩ := h'
  obtain ⟨v0, st, es1, c1, hrun, _, hst⟩ := WideElems.entry_then_store (string_law Tryz.underlying9) Tryz.underlying115 zeroU64 hb F (strKey s hs)
  refine ⟨v0, st, _, hrun, ⟨rfl, rfl, rfl, by simp [ChangeMaps.setBlock], fun i _ hi => heap_setBlock_other hb _ (fun e => hi (by rw [e]))⟩, es1, c1, heap_setBlock_same hb _, fun w2 x hx hw2 => ?_⟩
  obtain ⟨es', c', r1, r2⟩ := hst w2 (.int .u64 (x : Int)) hw2
  obtain ⟨w', hr, hN, hg⟩ := NameM.put h hn s hs x hx
  rw [r2] at hr
  have he : w' = ChangeMaps.setBlock w b (.map es' c') := by
    simp only [Result.ok.injEq, true_and] at hr
    exact hr.symm
  refine ⟨_, r1, MapAs.same (w := w') hN ?_, ⟨rfl, rfl, rfl, by simp [ChangeMaps.setBlock], fun i _ hi => heap_setBlock_other hw2 _ (fun e => hi (by rw [e]))⟩⟩
  rw [he]
  exact (heap_setBlock_same hw2 _).trans (heap_setBlock_same hb _).symm
theorem PendN.grown {w w' : World} {b n : Nat} {g : List UInt8 → Nat} {s : List UInt8} {st : Nat} (h : PendN w b n g s st) (hb : w'.heap[b]? = w.heap[b]?) : PendN w' b n g s st := by
  obtain ⟨es1, c1, e1, e2⟩ := h
  exact ⟨es1, c1, hb.trans e1, e2⟩
end Go.Proofs.YtbimlijhgeajjaaGreatDoor

namespace Go.Proofs.YtbimlijhgeajjaaGreatDoor
open Go Go.RowKit
set_option linter.unusedVariables false
set_option linter.unusedSectionVars false
set_option linter.unusedSimpArgs false
set_option maxRecDepth 100000
theorem bfalse {a b : Bool} (h : a = true → b = true) (hb : b = false) : a = false := by
  cases a with
  | false => rfl
  | true => rw [h rfl] at hb; cases hb
def SayCtx (M n : Nat) (gf : List UInt8 → Nat) (sv cv mv : Nat) (w1 : World) (d : Nat → Bool) (y : (Value × Nat) × (Value × Nat) × (Value × Nat)) (W : World) : Prop :=
  w1.grownBy W (some M) ∧ (d 21 = true → d 19 = true) ∧ (d 22 = true → d 21 = true) ∧ (d 24 = true → d 22 = true) ∧ (d 25 = true → d 24 = true) ∧ (d 27 = true → d 25 = true) ∧
    (d 19 = false → NameM W M n gf) ∧
    (d 19 = true → d 21 = false → PendN W M n gf nmStat y.1.2) ∧
    (d 21 = true → d 22 = false → NameM W M (n + 1) (setN gf nmStat sv)) ∧
    (d 22 = true → d 24 = false → PendN W M (n + 1) (setN gf nmStat sv) nmExp y.2.1.2) ∧
    (d 24 = true → d 25 = false → NameM W M (n + 2) (setN (setN gf nmStat sv) nmExp cv)) ∧
    (d 25 = true → d 27 = false → PendN W M (n + 2) (setN (setN gf nmStat sv) nmExp cv) nmMax y.2.2.2) ∧
    (d 27 = true → NameM W M (n + 3) (setN (setN (setN gf nmStat sv) nmExp cv) nmMax mv))
section
variable {M n : Nat} {gf : List UInt8 → Nat} {sv cv mv : Nat} {w1 W : World} {d : Nat → Bool} {y : (Value × Nat) × (Value × Nat) × (Value × Nat)}
theorem SayCtx.also (h : SayCtx M n gf sv cv mv w1 d y W) (i : Nat) (h1 : i ≠ 19) (h2 : i ≠ 21) (h3 : i ≠ 22) (h4 : i ≠ 24) (h5 : i ≠ 25) (h6 : i ≠ 27) : SayCtx M n gf sv cv mv w1 (also d i) y W := by
  unfold SayCtx at *
  have e : ∀ j, i ≠ j → Go.Proofs.YtbimlijhgeajjaaGreatDoor.also d i j = d j := fun j hj => by unfold Go.Proofs.YtbimlijhgeajjaaGreatDoor.also; rw [if_neg hj]
  rw [e 19 h1, e 21 h2, e 22 h3, e 24 h4, e 25 h5, e 27 h6]
  exact h
theorem SayCtx.e1 (h : SayCtx M n gf sv cv mv w1 d y W) (hd : d 19 = false) (hn : n < 900000) :
    ∃ (v0 : Value) (st : Nat) (W' : World), (Instr.mapEntry 115 (.map (some M)) (.string (bs nmStat))).run Tryz.prog W = .ok (.tuple #[v0, goInt st]) W' ∧ SayCtx M n gf sv cv mv w1 (Go.Proofs.YtbimlijhgeajjaaGreatDoor.also d 19) ((v0, st), y.2) W' := by
  obtain ⟨h0, c1, c2, c3, c4, c5, p0, p1, p2, p3, p4, p5, p6⟩ := h
  obtain ⟨v0, st, W', hr, hg, hp⟩ := NameM.entry (p0 hd) (by omega) nmStat (by decide)
  have d21 := bfalse c1 hd
  have d22 := bfalse c2 d21
  have d24 := bfalse c3 d22
  have d25 := bfalse c4 d24
  have d27 := bfalse c5 d25
  refine ⟨v0, st, W', hr, ?_⟩
  unfold SayCtx
  simp only [Go.Proofs.YtbimlijhgeajjaaGreatDoor.also, d21, d22, d24, d25, d27]
  refine ⟨only_trans h0 hg, ?_⟩
  simp
  exact hp
theorem SayCtx.s1 (h : SayCtx M n gf sv cv mv w1 d y W) (hd : d 21 = false) (h19 : d 19 = true) (hx : sv ≤ 18446744073709551615) :
    ∃ W', (Instr.entryStore 115 (.map (some M)) (goInt y.1.2) (.int .u64 (sv : Int))).run Tryz.prog W = .ok () W' ∧ SayCtx M n gf sv cv mv w1 (Go.Proofs.YtbimlijhgeajjaaGreatDoor.also d 21) y W' := by
  obtain ⟨h0, c1, c2, c3, c4, c5, p0, p1, p2, p3, p4, p5, p6⟩ := h
  obtain ⟨es1, q1, e1, e2⟩ := p1 h19 hd
  obtain ⟨W', hr, hN, hg⟩ := e2 W sv hx e1
  have d22 := bfalse c2 hd
  have d24 := bfalse c3 d22
  have d25 := bfalse c4 d24
  have d27 := bfalse c5 d25
  refine ⟨W', hr, ?_⟩
  unfold SayCtx
  simp only [Go.Proofs.YtbimlijhgeajjaaGreatDoor.also, h19, d22, d24, d25, d27]
  refine ⟨only_trans h0 hg, ?_⟩
  simp
  exact hN
theorem SayCtx.e2 (h : SayCtx M n gf sv cv mv w1 d y W) (hd : d 22 = false) (h21 : d 21 = true) (hn : n < 900000) :
    ∃ (v0 : Value) (st : Nat) (W' : World), (Instr.mapEntry 115 (.map (some M)) (.string (bs nmExp))).run Tryz.prog W = .ok (.tuple #[v0, goInt st]) W' ∧ SayCtx M n gf sv cv mv w1 (Go.Proofs.YtbimlijhgeajjaaGreatDoor.also d 22) (y.1, (v0, st), y.2.2) W' := by
  obtain ⟨h0, c1, c2, c3, c4, c5, p0, p1, p2, p3, p4, p5, p6⟩ := h
  obtain ⟨v0, st, W', hr, hg, hp⟩ := NameM.entry (p2 h21 hd) (by omega) nmExp (by decide)
  have h19 := c1 h21
  have d24 := bfalse c3 hd
  have d25 := bfalse c4 d24
  have d27 := bfalse c5 d25
  refine ⟨v0, st, W', hr, ?_⟩
  unfold SayCtx
  simp only [Go.Proofs.YtbimlijhgeajjaaGreatDoor.also, h19, h21, d24, d25, d27]
  refine ⟨only_trans h0 hg, ?_⟩
  simp
  exact hp
theorem SayCtx.s2 (h : SayCtx M n gf sv cv mv w1 d y W) (hd : d 24 = false) (h22 : d 22 = true) (hx : cv ≤ 18446744073709551615) :
    ∃ W', (Instr.entryStore 115 (.map (some M)) (goInt y.2.1.2) (.int .u64 (cv : Int))).run Tryz.prog W = .ok () W' ∧ SayCtx M n gf sv cv mv w1 (Go.Proofs.YtbimlijhgeajjaaGreatDoor.also d 24) y W' := by
  obtain ⟨h0, c1, c2, c3, c4, c5, p0, p1, p2, p3, p4, p5, p6⟩ := h
  obtain ⟨es1, q1, e1, e2⟩ := p3 h22 hd
  obtain ⟨W', hr, hN, hg⟩ := e2 W cv hx e1
  have h21 := c2 h22
  have h19 := c1 h21
  have d25 := bfalse c4 hd
  have d27 := bfalse c5 d25
  refine ⟨W', hr, ?_⟩
  unfold SayCtx
  simp only [Go.Proofs.YtbimlijhgeajjaaGreatDoor.also, h19, h21, h22, d25, d27]
  refine ⟨only_trans h0 hg, ?_⟩
  simp
  exact hN
theorem SayCtx.e3 (h : SayCtx M n gf sv cv mv w1 d y W) (hd : d 25 = false) (h24 : d 24 = true) (hn : n < 900000) :
    ∃ (v0 : Value) (st : Nat) (W' : World), (Instr.mapEntry 115 (.map (some M)) (.string (bs nmMax))).run Tryz.prog W = .ok (.tuple #[v0, goInt st]) W' ∧ SayCtx M n gf sv cv mv w1 (Go.Proofs.YtbimlijhgeajjaaGreatDoor.also d 25) (y.1, y.2.1, (v0, st)) W' := by
  obtain ⟨h0, c1, c2, c3, c4, c5, p0, p1, p2, p3, p4, p5, p6⟩ := h
  obtain ⟨v0, st, W', hr, hg, hp⟩ := NameM.entry (p4 h24 hd) (by omega) nmMax (by decide)
  have h22 := c3 h24
  have h21 := c2 h22
  have h19 := c1 h21
  have d27 := bfalse c5 hd
  refine ⟨v0, st, W', hr, ?_⟩
  unfold SayCtx
  simp only [Go.Proofs.YtbimlijhgeajjaaGreatDoor.also, h19, h21, h22, h24, d27]
  refine ⟨only_trans h0 hg, ?_⟩
  simp
  exact hp
theorem SayCtx.s3 (h : SayCtx M n gf sv cv mv w1 d y W) (hd : d 27 = false) (h25 : d 25 = true) (hx : mv ≤ 18446744073709551615) :
    ∃ W', (Instr.entryStore 115 (.map (some M)) (goInt y.2.2.2) (.int .u64 (mv : Int))).run Tryz.prog W = .ok () W' ∧ SayCtx M n gf sv cv mv w1 (Go.Proofs.YtbimlijhgeajjaaGreatDoor.also d 27) y W' := by
  obtain ⟨h0, c1, c2, c3, c4, c5, p0, p1, p2, p3, p4, p5, p6⟩ := h
  obtain ⟨es1, q1, e1, e2⟩ := p5 h25 hd
  obtain ⟨W', hr, hN, hg⟩ := e2 W mv hx e1
  have h24 := c4 h25
  have h22 := c3 h24
  have h21 := c2 h22
  have h19 := c1 h21
  refine ⟨W', hr, ?_⟩
  unfold SayCtx
  simp only [Go.Proofs.YtbimlijhgeajjaaGreatDoor.also, h19, h21, h22, h24, h25]
  refine ⟨only_trans h0 hg, ?_⟩
  simp
  exact hN
end
def RSay (op flags : Int) (xs : List Nat) (S : Nat → Prop) (H : Nat) (w w6 : World) (i : Value) (wr : World) : Prop :=
  ∃ (k : Nat) (v : Value), k ≤ xs.length ∧ i = .int .i64 (k : Nat) ∧ Blk wr H 51 (HC op false flags v) ∧ wr.ownsRow w6.heap.size 114 1 v k (u64Cells (xs.take k)) ∧ KeepBut H w6 wr ∧ KeptS S w wr
def SayPost (op flags : Int) (data : List UInt8) (xs : List Nat) (g M : Nat) (cs : Array Value) (w : World) (e : Ending) (w' : World) : Prop :=
  ∃ v, e = .returned (pduV op false flags v (.slice none 0 0) data) ∧ w'.ownsRow w.heap.size 114 1 v xs.length (u64Cells xs) ∧ KeptS (fun k => k = g ∨ k = M) w w' ∧ Blk w' g 65 cs
section
variable (g M n : Nat) (gf : List UInt8 → Nat) (p ta ga ua oa : Value) (sn ss : List UInt8) (lim : Int) (name : List UInt8) (disc : Bool) (stat cmd : Int) (gp left : Value) (closed : Bool)
  (op flags : Int) (data : List UInt8) (r : HR) (w : World)
  (hB : Blk w g 65 (fullC p ta ga ua oa sn ss lim name disc stat cmd gp left closed)) (hM : NameM w M n gf) (hn : n < 900000) (hgf : ∀ m, gf m ≤ 18446744073709551615) (hr : findH op = some r)
  (hs0 : 0 ≤ stat) (hs1 : stat ≤ 4294967295) (hc0 : 0 ≤ cmd) (hc1 : cmd ≤ 4294967295) (hgM : g ≠ M)
include hB hM hn hgf hr hs0 hs1 hc0 hc1 hgM
set_option maxHeartbeats 4000000 in
theorem say_any : Calls Tryz.prog 39 #[.pointer (some ⟨g, 0, none⟩), .int .i64 op, .int .i64 flags, .string (bs data), .map (some M)] w fun e w' =>
    SayPost op flags data (r.fields.map fun f => tailG gf stat cmd f.name) g M (fullC p ta ga ua oa sn ss lim name disc ((stat + 1) % 4294967296) cmd gp left closed) w e w' := by
  have hmx : Tryz.prog.follows .mixedOrders = true := by kernel_rfl
  have ck := fun w1 => hid (kind_any op w1)
  have ca := fun W => hid (rafter_any cmd 31 W hc0 hc1 (by omega) (by omega))
  unfold KindPost at ck
  simp only [hr, hName, hFlags, hFields, Option.isSome_some] at ck
  have hmem := findH_mem hr
  have hnf := (head_fine r hmem).2.2.2.2.2.2.1
  have hn0 := fields_pos r hmem
  have Hft := hid (head_fine r hmem).2.2.2.2.2.2.2
  clear hr hmem
  obtain ⟨W1, hW1⟩ : ∃ W1, w.alloc (.cells #[.int .i64 0, .bool false, .int .i64 0, .slice none 0 0, .slice none 0 0, .string ⟨#[]⟩] 54) = W1 := ⟨_, rfl⟩
  have k1 : Below w.heap.size w W1 := by rw [← hW1]; exact (Below.refl _ _).alloc (Nat.le_refl _) _
  have P1 : Blk W1 w.heap.size 54 #[.int .i64 0, .bool false, .int .i64 0, .slice none 0 0, .slice none 0 0, .string ⟨#[]⟩] := by rw [← hW1]; exact Blk.new _ _ _
  have z1 : W1.heap.size = w.heap.size + 1 := by rw [← hW1]; simp
  have B1 := hB.below k1
  have M1 : NameM W1 M n gf := MapAs.below hM k1
  have hgl := hB.lt
  have hMl := MapAs.lt hM
  clear hB hM
  go_enter Tryz.func39, Tryz.ntmps39
  go_wp2_with fail
  refine wpIn_wide (n := 4).1 ?_
  refine region_ghost (G := (Value × Nat) × (Value × Nat) × (Value × Nat)) (fun y => [(18, .map (some M)), (19, .map (some M)), (20, .map (some M)), (21, .pointer (some ⟨g, 0, none⟩)), (22, .pointer (some ⟨g, 0, none⟩)), (23, .pointer (some ⟨g, 10, none⟩)), (24, .int .u32 stat), (25, .int .u64 stat), (26, .pointer (some ⟨g, 0, none⟩)), (27, .pointer (some ⟨g, 0, none⟩)), (28, .pointer (some ⟨g, 11, none⟩)), (29, .int .u32 cmd), (30, .int .u64 cmd), (31, .pointer (some ⟨g, 0, none⟩)), (32, .pointer (some ⟨g, 0, none⟩)), (33, .pointer (some ⟨g, 11, none⟩)), (34, .int .u32 cmd), (35, .int .u32 ((cmd + 31) % 4294967296)), (36, .int .u64 ((cmd + 31) % 4294967296)), (37, .tuple #[y.1.1, goInt y.1.2]), (38, goInt y.1.2), (39, .tuple #[y.2.1.1, goInt y.2.1.2]), (40, goInt y.2.1.2), (41, .tuple #[y.2.2.1, goInt y.2.2.2]), (42, goInt y.2.2.2)])
    (SayCtx M n gf stat.toNat cmd.toNat ((cmd + 31) % 4294967296).toNat W1)
    ((undef, 0), (undef, 0), (undef, 0)) (aF := ?kA) ?kB hmx [18, 19, 20, 21, 22, 23, 24, 25, 26, 27, 28, 29, 30, 31, 32, 33, 34, 35, 36, 37, 38, 39, 40, 41, 42] (fun _ => rfl) (by kernel_rfl) (by kernel_rfl) ?kS ?kE ?kQ
  case kB =>
    intro y
    simp only [putAll, List.foldl_cons, List.foldl_nil, List.setIfInBounds_toArray, List.set_cons_zero, List.set_cons_succ]
    exact rfl
  case kS => exact ⟨grownN (Below.refl W1.heap.size W1).drew (Nat.le_refl _) _, by simp, by simp, by simp, by simp, by simp, fun _ => MapAs.below M1 (Below.refl _ _).drew, by simp, by simp, by simp, by simp, by simp, by simp⟩
  case kE =>
    obtain ⟨sv, hsv⟩ : ∃ sv : Nat, stat = (sv : Int) := ⟨stat.toNat, by omega⟩
    obtain ⟨cv, hcv⟩ : ∃ cv : Nat, cmd = (cv : Int) := ⟨cmd.toNat, by omega⟩
    obtain ⟨mv, hmv⟩ : ∃ mv : Nat, (cmd + 31) % 4294967296 = (mv : Int) := ⟨((cmd + 31) % 4294967296).toNat, by omega⟩
    have hmv2 : mv ≤ 4294967295 := by omega
    rw [hmv] at ca ⊢
    have wm : IntKind.u64.wrap (mv : Int) = mv := by rw [IntKind.wrap_u64]; omega
    clear hmv
    subst hsv hcv
    have ws : IntKind.u64.wrap (sv : Int) = sv := by rw [IntKind.wrap_u64]; omega
    have wc : IntKind.u64.wrap (cv : Int) = cv := by rw [IntKind.wrap_u64]; omega
    simp only [Int.toNat_natCast]
    have HF := hid (fun (W : World) (hg : W1.grownBy W (some M)) => show W.cell? ⟨g, 10, none⟩ = some (.int .u32 (sv : Int)) ∧ W.cell? ⟨g, 11, none⟩ = some (.int .u32 (cv : Int)) from by
      have B := blk_only B1 hg hgM
      exact ⟨(B.cell 10).trans rfl, (B.cell 11).trans rfl⟩)
    refine ⟨?o0, ?o1, ?o2, ?o3, ?o4, ?o5, ?o6, ?o7, ?o8, ?o9, ?o10, ?o11, ?o12, ?o13, ?o14, ?o15, ?o16, ?o17, ?o18, ?o19, ?o20, ?o21, ?o22, ?o23, ?o24, ?o25, ?o26, ?o27, trivial⟩
    all_goals refine ⟨by simp, fun d y W hC hd hdep => ⟨by first | (simp [go_sem, Oper.about]; done) | (simp [go_sem, Oper.about]; exact trivial), ?_⟩⟩
    case o17 =>
      have hc := (ca W).out
      refine opGhost_call (f := 79) (args := #[.int .u32 (cv : Int), .int .i64 31]) (w' := W) (by simp [go_sem]) rfl (by simp) (callsIn_wide.2 (hc.mono ?_))
      rintro e W2 ⟨rfl, rfl⟩
      exact ⟨y, by simp [go_sem], .inl rfl, hC.also 17 (by omega) (by omega) (by omega) (by omega) (by omega) (by omega)⟩
    case o19 =>
      obtain ⟨v0, st, W', hr, hC'⟩ := hC.e1 hd hn
      have hr : (Instr.mapEntry 115 (.map (some M)) (.string ⟨#[83, 116, 97, 116, 83, 78]⟩)).run Tryz.prog W = .ok (.tuple #[v0, goInt st]) W' := hr
      exact opGhost_new ((v0, st), y.2) [37, 38] (w' := W') (by simp [go_sem, hr]) rfl (by kernel_rfl) (by simp [AgreeOff]) hC'
    case o21 =>
      simp [Region.binds] at hdep
      obtain ⟨W', hr, hC'⟩ := hC.s1 hd (by simp [hdep]) (by omega)
      unfold goInt at hr
      exact opGhost_store (w' := W') (by simp [go_sem, hr]) rfl hC'
    case o22 =>
      simp [Region.binds] at hdep
      obtain ⟨v0, st, W', hr, hC'⟩ := hC.e2 hd (by simp [hdep]) hn
      have hr : (Instr.mapEntry 115 (.map (some M)) (.string ⟨#[69, 120, 112, 67, 109, 100, 83, 78]⟩)).run Tryz.prog W = .ok (.tuple #[v0, goInt st]) W' := hr
      exact opGhost_new (y.1, (v0, st), y.2.2) [39, 40] (w' := W') (by simp [go_sem, hr]) rfl (by kernel_rfl) (by simp [AgreeOff]) hC'
    case o24 =>
      simp [Region.binds] at hdep
      obtain ⟨W', hr, hC'⟩ := hC.s2 hd (by simp [hdep]) (by omega)
      unfold goInt at hr
      exact opGhost_store (w' := W') (by simp [go_sem, hr]) rfl hC'
    case o25 =>
      simp [Region.binds] at hdep
      obtain ⟨v0, st, W', hr, hC'⟩ := hC.e3 hd (by simp [hdep]) hn
      have hr : (Instr.mapEntry 115 (.map (some M)) (.string ⟨#[77, 97, 120, 67, 109, 100, 83, 78]⟩)).run Tryz.prog W = .ok (.tuple #[v0, goInt st]) W' := hr
      exact opGhost_new (y.1, y.2.1, (v0, st)) [41, 42] (w' := W') (by simp [go_sem, hr]) rfl (by kernel_rfl) (by simp [AgreeOff]) hC'
    case o27 =>
      simp [Region.binds] at hdep
      obtain ⟨W', hr, hC'⟩ := hC.s3 hd (by simp [hdep]) (by omega)
      unfold goInt at hr
      exact opGhost_store (w' := W') (by simp [go_sem, hr]) rfl hC'
    all_goals
      obtain ⟨q10, q11⟩ := HF.out W hC.1
      first
        | exact opGhost_same (by simp [go_sem, q10, q11, ws, wc, wm]) rfl (hC.also _ (by omega) (by omega) (by omega) (by omega) (by omega) (by omega))
  case kQ =>
    rintro d y W5 hall hC
    have hO := hC.1
    have NM : NameM W5 M (n + 3) (tailG gf stat cmd) := hC.2.2.2.2.2.2.2.2.2.2.2.2 (hall 27 (by simp))
    clear hC hall
    have B5 := blk_only B1 hO hgM
    have P5 := blk_only P1 hO (by omega)
    have hO5 := hO.size
    have s10 := (B5.cell 10).trans (rfl : _ = some (Value.int .u32 stat))
    have f10 := B5.free 10
    have hw : IntKind.u32.wrap (stat + 1) = (stat + 1) % 4294967296 := by rw [IntKind.wrap_u32]
    have K5 : KeptS (fun k => k = g ∨ k = M) w W5 := ((KeptS.refl _ w).below k1).only hO (fun q h => .inl (.inr (Option.some.inj h).symm))
    obtain ⟨W6, hW6⟩ : ∃ W6, W5.setCell ⟨g, 10, none⟩ (.int .u32 ((stat + 1) % 4294967296)) = W6 := ⟨_, rfl⟩
    have B6 : Blk W6 g 65 (fullC p ta ga ua oa sn ss lim name disc ((stat + 1) % 4294967296) cmd gp left closed) := by rw [← hW6]; exact B5.set 10 _
    have P6 : Blk W6 w.heap.size 54 #[.int .i64 0, .bool false, .int .i64 0, .slice none 0 0, .slice none 0 0, .string ⟨#[]⟩] := by rw [← hW6]; exact blk_offN P5 10 _ (by omega)
    have NM6 : NameM W6 M (n + 3) (tailG gf stat cmd) := by rw [← hW6]; exact MapAs.same NM (Below.heap_setCell W5 ⟨g, 10, none⟩ _ M (fun e => hgM e.symm))
    have K6 : KeptS (fun k => k = g ∨ k = M) w W6 := by rw [← hW6]; exact K5.set _ _ (.inl (.inl rfl))
    have z6 : W6.heap.size = W5.heap.size := by rw [← hW6]; simp [World.setCell]
    have k7 : Below W6.heap.size W6 (W6.alloc (.cells #[.int .i64 op, .bool false, .int .i64 flags, .slice none 0 0] 51)) := (Below.refl _ _).alloc (Nat.le_refl _) _
    have H7 : Blk (W6.alloc (.cells #[.int .i64 op, .bool false, .int .i64 flags, .slice none 0 0] 51)) W6.heap.size 51 (HC op false flags (.slice none 0 0)) := Blk.new _ _ _
    gi_wp2
    go_wp2_with fail
    rw [← z6]
    generalize hW7 : W6.alloc (.cells #[.int .i64 op, .bool false, .int .i64 flags, .slice none 0 0] 51) = W7 at *
    have z7 : W7.heap.size = W6.heap.size + 1 := by rw [← hW7]; simp
    clear hW7 hW6 z6
    have B7 := B6.below k7
    have P7 := P6.below k7
    have NM7 : NameM W7 M (n + 3) (tailG gf stat cmd) := MapAs.below NM6 k7
    have K7 := K6.below k7
    refine (ck _).out.mono ?_
    rintro e W8 ⟨fv, rfl, hfs, _, hb8⟩
    have z8 := hb8.size
    have B8 := B7.below hb8
    have P8 := P7.below hb8
    have H8 := H7.below hb8
    have NM8 : NameM W8 M (n + 3) (tailG gf stat cmd) := MapAs.below NM7 hb8
    have K8 := K7.below hb8
    obtain ⟨fb, fo, fc, rfl, hfb, hfc⟩ := fields_open hfs hn0
    have hfne : fb ≠ W6.heap.size := by
      intro e
      obtain ⟨f0, hf0⟩ : ∃ f, r.fields[0]? = some f := ⟨r.fields[0]'hn0, List.getElem?_eq_getElem _⟩
      obtain ⟨y0, _, _⟩ := hfc 0 f0 hf0
      rw [e, H8.cell] at y0
      generalize fo + 0 * 3 = j at y0
      rcases j with _ | _ | _ | _ | j <;> simp [HC] at y0
    have HFC := hid hfc
    have hvl : (r.fields.map fun f => tailG gf stat cmd f.name).length = r.fields.length := by simp
    have hvb : ∀ x ∈ r.fields.map (fun f => tailG gf stat cmd f.name), x ≤ 18446744073709551615 := by
      intro x hx
      obtain ⟨f, _, rfl⟩ := List.mem_map.1 hx
      unfold tailG setN
      split
      · omega
      · split
        · omega
        · split
          · omega
          · exact hgf _
    have hxk : ∀ (j : Nat) (f : FR), r.fields[j]? = some f → (r.fields.map fun f => tailG gf stat cmd f.name)[j]? = some (tailG gf stat cmd f.name) := fun j f h => by rw [List.getElem?_map, h]; rfl
    have Hxk := hid hxk; have Hvb := hid hvb; have HNM := hid NM8
    have HB8 := hid B8; have HP8 := hid P8; have HH8 := hid H8; have HK8 := hid K8
    have hgl8 : g < W6.heap.size := B6.lt
    have hMl8 : M < W6.heap.size := MapAs.lt NM6
    have hpl8 : w.heap.size < W6.heap.size := P6.lt
    have hw8 := K8.size
    clear hxk hvb hfc hfs ck B5 P5 B6 P6 NM NM6 K5 K6 B7 P7 NM7 K7 B8 P8 H7 H8 NM8 K8 s10 f10 hw k7 hb8 hO B1 P1 M1 k1 hgf ca
    generalize hxs : r.fields.map (fun f => tailG gf stat cmd f.name) = xs at *
    have HX := hid hxs
    clear hxs
    go_wp2_with fail
    go_loopw [62] (fun i wr => RSay op flags xs (fun k => k = g ∨ k = M) W6.heap.size w W8 i wr) (fun i _ => xs.length - (intOf i).toNat)
    case atStart => exact ⟨0, _, by omega, rfl, HH8.out, World.ownsRow_nil _ _ _ _, KeepBut.refl _ _, HK8.out⟩
    case round =>
      obtain ⟨k, v, hk, rfl, hB, hown, hKp, hb⟩ := hrel
      have hs4 := hKp.size
      by_cases hlt : k < xs.length
      · obtain ⟨f, hfk⟩ : ∃ f, r.fields[k]? = some f := ⟨r.fields[k]'(by omega), List.getElem?_eq_getElem _⟩
        have hkf : k < r.fields.length := by omega
        have hxk := Hxk.out k f hfk
        have hfn : f.name.length ≤ 9223372036854775807 := by
          have h1 := (Hft.out f (List.mem_of_getElem? hfk)).2.1
          unfold FR.text at h1
          simp at h1
          omega
        have hx64 := Hvb.out _ (List.mem_of_getElem? hxk)
        have Hn := hid (u64_snoc xs k _ hxk)
        obtain ⟨y0, y1, y2⟩ := HFC.out k f hfk
        have y0 := (hKp.cell (p := ⟨fb, fo + k * 3, none⟩) (by show fb < _; omega) hfne).trans y0
        have y1 := (hKp.cell (p := ⟨fb, fo + k * 3 + 1, none⟩) (by show fb < _; omega) hfne).trans y1
        have y2 := (hKp.cell (p := ⟨fb, fo + k * 3 + 2, none⟩) (by show fb < _; omega) hfne).trans y2
        have hA := (Below.refl wr.heap.size wr).alloc (Nat.le_refl _) (.cells #[.string (bs f.name), .int .i64 (f.at_ : Int), .int .i64 (f.size : Int)] 175)
        have hNM2 : NameM (wr.alloc (.cells #[.string (bs f.name), .int .i64 (f.at_ : Int), .int .i64 (f.size : Int)] 175)) M (n + 3) (tailG gf stat cmd) := MapAs.below (MapAs.same HNM.out (hKp.keep _ (by omega) (by omega))) hA
        have hlk := hNM2.look f.name hfn
        clear hxk hfk
        generalize tailG gf stat cmd f.name = x at *
        generalize u64Cells (xs.take k) = cs at *
        have hB2 := hB.below hA
        have hK2 := hKp.below hA
        have hO2 := owns_below hown hA
        have hbA := hb.below hA
        have t3 : (wr.alloc (.cells #[.string (bs f.name), .int .i64 (f.at_ : Int), .int .i64 (f.size : Int)] 175)).cell? ⟨W6.heap.size, 3, none⟩ = some v := (hB2.cell 3).trans rfl
        have hA3 := (Below.refl (wr.alloc (.cells #[.string (bs f.name), .int .i64 (f.at_ : Int), .int .i64 (f.size : Int)] 175)).heap.size (wr.alloc (.cells #[.string (bs f.name), .int .i64 (f.at_ : Int), .int .i64 (f.size : Int)] 175))).alloc (Nat.le_refl _) (.cells #[.int .u64 (x : Nat)] 114)
        have hB3 := hB2.below hA3
        have hK3 := hK2.below hA3
        have hO3 := owns_below hO2 hA3
        have hb3 := hbA.below hA3
        have q8 := hB.lt
        have hlt6 : W6.heap.size < W8.heap.size := by omega
        go_wp2_with (at_builtin; refine list_append_own rfl (.tmp 67) (.tmp 72) 49 rfl W8.heap.size 114 (.int .u64 0) 1 8 Tryz.underlying49 infoU64 rfl (by decide) v k cs rfl hO3 ⟨wr.heap.size + 1, 0, none⟩ 1 1 [.int .u64 (x : Nat)] rfl rfl (by intro j u hu; (have hj : j = 0 := by (have := (List.getElem?_eq_some_iff.1 hu).1; simp at this; exact this)); subst hj; simp at hu; subst hu; rw [show (⟨wr.heap.size + 1, 0, none⟩ : Addr).add 0 = ⟨wr.heap.size + 1, 0, none⟩ from rfl, ← World.size_alloc wr (.cells #[.string (bs f.name), .int .i64 (f.at_ : Int), .int .i64 (f.size : Int)] 175), cell_of_row _ _ _ _ _ _ (heap_alloc_new _ _)]; rfl) (by simp [Value.oneCell']) (by unfold maxLen; omega) (by omega) (by simp; omega) ?_; intro v' w5 hown5 hgrow _; obtain ⟨sa', sc', rfl⟩ := own_sl hown5; have hB5 := hB3.grown hO3 hgrow hlt6; have hK5 := hK3.grown hO3 hgrow; have u3 : w5.cell? ⟨W6.heap.size, 3, none⟩ = some v := (hB5.cell 3).trans rfl; have f3 := hB5.free 3)
        go_roundw
        case rel => exact ⟨k + 1, _, by omega, by go_num, hB5.set 3 _, by rw [Hn.out]; exact owns_set hown5 hlt6 _, hK5.set 3 _, (hb3.only hgrow (fun q hq => .inr (by have := (hO3.lt q hq).1; omega))).set _ _ (.inr (by simp only; omega))⟩
        case measure => simp [intOf]; omega
      · obtain rfl : k = xs.length := by omega
        obtain ⟨va', vc', rfl⟩ := own_sl hown
        rw [List.take_length] at hown
        rw [hvl] at hown hB
        have HO := hid hown
        have HBr := keep_blk hKp HP8.out (by omega)
        have HEr := hid (keep_blk hKp HB8.out (by omega))
        have p0 : wr.cell? ⟨W6.heap.size, 0, none⟩ = some (.int .i64 op) := (hB.cell 0).trans rfl
        have p1 : wr.cell? ⟨W6.heap.size, 1, none⟩ = some (.bool false) := (hB.cell 1).trans rfl
        have p2 : wr.cell? ⟨W6.heap.size, 2, none⟩ = some (.int .i64 flags) := (hB.cell 2).trans rfl
        have p3 : wr.cell? ⟨W6.heap.size, 3, none⟩ = some (.slice va' r.fields.length vc') := (hB.cell 3).trans rfl
        have y0 := (HBr.cell 0).trans (rfl : _ = some (Value.int .i64 0))
        have y1 := (HBr.cell 1).trans (rfl : _ = some (Value.bool false))
        have y2 := (HBr.cell 2).trans (rfl : _ = some (Value.int .i64 0))
        have y3 := (HBr.cell 3).trans (rfl : _ = some (Value.slice none 0 0))
        have y4 := (HBr.cell 4).trans (rfl : _ = some (Value.slice none 0 0))
        have y5 := (HBr.cell 5).trans (rfl : _ = some (Value.string ⟨#[]⟩))
        have v0 := HBr.free 0; have v1 := HBr.free 1; have v2 := HBr.free 2; have v3 := HBr.free 3; have v4 := HBr.free 4; have v5 := HBr.free 5
        obtain ⟨W9, hW9⟩ : ∃ W9, ((((((wr.setCell ⟨w.heap.size, 0, none⟩ (.int .i64 op)).setCell ⟨w.heap.size, 1, none⟩ (.bool false)).setCell ⟨w.heap.size, 2, none⟩ (.int .i64 flags)).setCell ⟨w.heap.size, 3, none⟩ (.slice va' r.fields.length vc')).setCell ⟨w.heap.size, 4, none⟩ (.slice none 0 0)).setCell ⟨w.heap.size, 5, none⟩ (.string (bs data))) = W9 := ⟨_, rfl⟩
        have T0 : Blk W9 w.heap.size 54 #[.int .i64 op, .bool false, .int .i64 flags, .slice va' r.fields.length vc', .slice none 0 0, .string (bs data)] := by
          rw [← hW9]
          exact (((((HBr.set 0 _).set 1 _).set 2 _).set 3 _).set 4 _).set 5 _
        have B9 : Blk W9 g 65 (fullC p ta ga ua oa sn ss lim name disc ((stat + 1) % 4294967296) cmd gp left closed) := by
          rw [← hW9]
          iterate 6 refine blk_offN ?_ _ _ (by omega)
          exact HEr.out
        have K9 : KeptS (fun k => k = g ∨ k = M) w W9 := by
          rw [← hW9]
          exact (((((hb.set _ _ (.inr (Nat.le_refl _))).set _ _ (.inr (Nat.le_refl _))).set _ _ (.inr (Nat.le_refl _))).set _ _ (.inr (Nat.le_refl _))).set _ _ (.inr (Nat.le_refl _))).set _ _ (.inr (Nat.le_refl _))
        have O9 : W9.ownsRow W8.heap.size 114 1 (.slice va' r.fields.length vc') r.fields.length (u64Cells xs) := by
          rw [← hW9]
          iterate 6 refine owns_set ?_ (show w.heap.size < W8.heap.size by omega) _
          exact HO.out
        have O9 := hid (owns_base O9 (show w.heap.size ≤ W8.heap.size by omega))
        have e1 := (T0.cell 0).trans (rfl : _ = some (Value.int .i64 op))
        have e2 := (T0.cell 1).trans (rfl : _ = some (Value.bool false))
        have e3 := (T0.cell 2).trans (rfl : _ = some (Value.int .i64 flags))
        have e4 := (T0.cell 3).trans (rfl : _ = some (Value.slice va' r.fields.length vc'))
        have e5 := (T0.cell 4).trans (rfl : _ = some (Value.slice none 0 0))
        have e6 := (T0.cell 5).trans (rfl : _ = some (Value.string (bs data)))
        have HK9 := hid K9; have HB9 := hid B9
        clear hown hKp hb HBr T0 K9 B9
        go_wp2
        refine bodyPost_ret (v := pduV op false flags (.slice va' r.fields.length vc') (.slice none 0 0) data) (by simp [results, Tryz.results39, go_sem, pduV, e1, e2, e3, e4, e5, e6]) rfl ?_
        exact ⟨_, rfl, by rw [HX.out, hvl]; exact O9.out, HK9.out, HB9.out⟩
end
end Go.Proofs.YtbimlijhgeajjaaGreatDoor
