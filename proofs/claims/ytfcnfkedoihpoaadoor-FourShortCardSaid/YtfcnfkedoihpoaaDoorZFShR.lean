/- FourShort's two statements that draw their order, each over any frame: copies, addresses and loads are taken first, what makes memory is branched over. Printed by wip/mkshort.py. -/
import Derived.Test.YtfcnfkedoihpoaaDoorZShortP
import Derived.Test.YtfcnfkedoihpoaaDoorJF
import Derived.Test.YtfcnfkedoihpoaaDoorJE
import Derived.Deep.RegionHeld3
namespace Go.Proofs.YtfcnfkedoihpoaaDoor
open Go.RowKit Go.Proofs.YtfcnfkedoihpoaaDoorW.PrintWords Go.Proofs.YtfcnfkedoihpoaaDoorW.PrintMore

def pfxB : Nat → ByteArray
  | 0 => ⟨#[]⟩
  | 1 => ⟨#[48]⟩
  | _ => ⟨#[48, 120]⟩
/-- A region's walk under a condition goes by a stronger one. -/
theorem wpAnyH_mono {P : Program} {md : Region.Mode} {ops : Array Oper} {Q : Exit → Act → World → Prop} {S S' : World → Prop} (hS : ∀ w, S' w → S w) : ∀ (fuel : Nat) (listed : Array Bool) (a : Act) (w : World), wpAnyH P md ops Q S' fuel listed a w → wpAnyH P md ops Q S fuel listed a w
  | 0, _, _, _, h => h
  | fuel + 1, _, _, _, h => ⟨h.1, fun i hi => wpOp_mono (fun a' w' h' => ⟨hS w' h'.1, wpAnyH_mono hS fuel _ a' w' h'.2⟩) (h.2 i hi)⟩
theorem wpAnyH_move {P : Program} {md : Region.Mode} {ops : Array Oper} {Q : Exit → Act → World → Prop} {fuel : Nat} {listed : Array Bool} {a : Act} {W W' : World} (hk : Below W.heap.size W W') (h : wpAnyH P md ops Q (fun V => Below W'.heap.size W' V) fuel listed a W') : wpAnyH P md ops Q (fun V => Below W.heap.size W V) fuel listed a W' :=
  wpAnyH_mono (fun _ hV => below_then hk hk.size hV) fuel listed a W' h

set_option maxHeartbeats 40000000 in
set_option maxRecDepth 100000 in
theorem short_reg12_0 {t0 t1 t2 t3 t4 t5 t7 t8 t9 t11 t14 t15 t16 t17 t18 t19 t20 t21 t22 t23 t24 t25 t26 t27 t28 t29 t30 t31 t32 t33 t34 t35 t36 t37 t38 t39 t40 t41 t42 t43 t44 t45 t46 t47 t48 t49 t50 t51 t52 t53 t54 t55 t56 t57 t58 t59 t60 t61 t62 t63 t64 t65 t66 t67 t68 t69 t70 t71 t72 t73 t74 t75 t76 t77 t78 t79 t80 t81 t82 t83 t84 t85 t86 t87 t88 t89 t90 t91 t92 t93 t94 t95 t96 t97 t98 : Value} (B j x bv : Nat) (z : ByteArray) (Q : Exit → Act → World → Prop) (w : World) (hj : j < 4) (hx : x < 18446744073709551616) (hbm : (bv : Int) % 3 = 0) (hz : z.size ≤ 400)
    (hB : B < w.heap.size) (hc : w.cell? ⟨B, j, none⟩ = some (.int .u8 (bv : Int))) (hP : Aside0 (Pows w)) (hT : Aside0 (Debr w))
    (hQ : ∀ (s45 s46 s47 s48 s49 s50 s51 s52 s53 s54 s55 s56 s57 s58 s59 s60 s61 s62 s63 s64 : Value) (W : World), Below w.heap.size w W → Q .normal { tmps := List.toArray (t0 :: t1 :: t2 :: t3 :: t4 :: t5 :: .pointer (some ⟨B, 0, none⟩) :: t7 :: t8 :: t9 :: .string (z ++ (pfxB 0 ++ ⟨(digB 10 x).toArray⟩ ++ ⟨#[46]⟩)) :: t11 :: .int .i64 (j : Int) :: .int .u64 (x : Int) :: t14 :: t15 :: t16 :: t17 :: t18 :: t19 :: t20 :: t21 :: t22 :: t23 :: t24 :: t25 :: t26 :: t27 :: t28 :: t29 :: t30 :: t31 :: t32 :: t33 :: t34 :: t35 :: t36 :: t37 :: t38 :: t39 :: t40 :: t41 :: t42 :: t43 :: t44 :: s45 :: s46 :: s47 :: s48 :: s49 :: s50 :: s51 :: s52 :: s53 :: s54 :: s55 :: s56 :: s57 :: s58 :: s59 :: s60 :: s61 :: s62 :: s63 :: s64 :: t65 :: t66 :: t67 :: t68 :: t69 :: t70 :: t71 :: t72 :: t73 :: t74 :: t75 :: t76 :: t77 :: t78 :: t79 :: t80 :: t81 :: t82 :: t83 :: t84 :: t85 :: t86 :: t87 :: t88 :: t89 :: t90 :: t91 :: t92 :: t93 :: t94 :: t95 :: t96 :: t97 :: t98 :: []), defers := [] } W) :
    (Code.region 12 #[{ dst := some 45, op := Go.Op.move (Go.Operand.tmp 10), type := 9, pos := "law.go:63", after := #[], guard := none }, { dst := some 46, op := Go.Op.buildSlice 33 3 #[(0, Go.Operand.const (Go.Value.string { data := #[] })), (1, Go.Operand.const (Go.Value.string { data := #[48] })), (2, Go.Operand.const (Go.Value.string { data := #[48, 120] }))], type := 33, pos := "law.go:63", after := #[], guard := none }, { dst := some 47, op := Go.Op.move (Go.Operand.tmp 12), type := 3, pos := "law.go:63", after := #[], guard := none }, { dst := some 48, op := Go.Op.indexAddr 31 (Go.Operand.tmp 6) (Go.Operand.tmp 47), type := 0, pos := "law.go:63", after := #[{ on := 2, ground := Go.Ground.data }], guard := none }, { dst := some 49, op := Go.Op.load 5 (Go.Operand.tmp 48), type := 5, pos := "law.go:63", after := #[{ on := 3, ground := Go.Ground.data }], guard := none }, { dst := some 50, op := Go.Op.binOp Go.BinOp.rem 5 (Go.Operand.tmp 49) (Go.Operand.const (Go.Value.int Go.IntKind.u8 3)) 5, type := 5, pos := "law.go:63", after := #[{ on := 4, ground := Go.Ground.data }], guard := none }, { dst := some 51, op := Go.Op.indexAddr 33 (Go.Operand.tmp 46) (Go.Operand.tmp 50), type := 0, pos := "law.go:63", after := #[{ on := 1, ground := Go.Ground.data }, { on := 5, ground := Go.Ground.data }], guard := none }, { dst := some 52, op := Go.Op.load 9 (Go.Operand.tmp 51), type := 9, pos := "law.go:63", after := #[{ on := 6, ground := Go.Ground.data }], guard := none }, { dst := some 53, op := Go.Op.move (Go.Operand.tmp 13), type := 32, pos := "law.go:63", after := #[], guard := none }, { dst := some 54, op := Go.Op.buildSlice 35 3 #[(0, Go.Operand.const (Go.Value.int Go.IntKind.i64 10)), (1, Go.Operand.const (Go.Value.int Go.IntKind.i64 8)), (2, Go.Operand.const (Go.Value.int Go.IntKind.i64 16))], type := 35, pos := "law.go:63", after := #[], guard := none }, { dst := some 55, op := Go.Op.move (Go.Operand.tmp 12), type := 3, pos := "law.go:63", after := #[], guard := none }, { dst := some 56, op := Go.Op.indexAddr 31 (Go.Operand.tmp 6) (Go.Operand.tmp 55), type := 0, pos := "law.go:63", after := #[{ on := 10, ground := Go.Ground.data }], guard := none }, { dst := some 57, op := Go.Op.load 5 (Go.Operand.tmp 56), type := 5, pos := "law.go:63", after := #[{ on := 11, ground := Go.Ground.data }], guard := none }, { dst := some 58, op := Go.Op.binOp Go.BinOp.rem 5 (Go.Operand.tmp 57) (Go.Operand.const (Go.Value.int Go.IntKind.u8 3)) 5, type := 5, pos := "law.go:63", after := #[{ on := 12, ground := Go.Ground.data }], guard := none }, { dst := some 59, op := Go.Op.indexAddr 35 (Go.Operand.tmp 54) (Go.Operand.tmp 58), type := 0, pos := "law.go:63", after := #[{ on := 9, ground := Go.Ground.data }, { on := 13, ground := Go.Ground.data }], guard := none }, { dst := some 60, op := Go.Op.load 3 (Go.Operand.tmp 59), type := 3, pos := "law.go:63", after := #[{ on := 14, ground := Go.Ground.data }], guard := none }, { dst := some 61, op := Go.Op.call { callee := Go.Callee.value (Go.Operand.func 16), args := #[Go.Operand.tmp 53, Go.Operand.tmp 60], argTypes := #[32, 3] }, type := 9, pos := "law.go:63", after := #[{ on := 8, ground := Go.Ground.data }, { on := 15, ground := Go.Ground.data }], guard := none }, { dst := some 62, op := Go.Op.binOp Go.BinOp.add 9 (Go.Operand.tmp 52) (Go.Operand.tmp 61) 9, type := 9, pos := "law.go:63", after := #[{ on := 7, ground := Go.Ground.data }, { on := 16, ground := Go.Ground.data }], guard := none }, { dst := some 63, op := Go.Op.binOp Go.BinOp.add 9 (Go.Operand.tmp 62) (Go.Operand.const (Go.Value.string { data := #[46] })) 9, type := 9, pos := "law.go:63", after := #[{ on := 17, ground := Go.Ground.data }], guard := none }, { dst := some 64, op := Go.Op.binOp Go.BinOp.add 9 (Go.Operand.tmp 45) (Go.Operand.tmp 63) 9, type := 9, pos := "law.go:63", after := #[{ on := 0, ground := Go.Ground.data }, { on := 18, ground := Go.Ground.data }], guard := none }, { dst := some 10, op := Go.Op.assign (Go.Operand.tmp 64), type := 9, pos := "law.go:63", after := #[{ on := 19, ground := Go.Ground.data }, { on := 16, ground := Go.Ground.chain }, { on := 0, ground := Go.Ground.phase }, { on := 1, ground := Go.Ground.phase }, { on := 2, ground := Go.Ground.phase }, { on := 3, ground := Go.Ground.phase }, { on := 4, ground := Go.Ground.phase }, { on := 5, ground := Go.Ground.phase }, { on := 6, ground := Go.Ground.phase }, { on := 7, ground := Go.Ground.phase }, { on := 8, ground := Go.Ground.phase }, { on := 9, ground := Go.Ground.phase }, { on := 10, ground := Go.Ground.phase }, { on := 11, ground := Go.Ground.phase }, { on := 12, ground := Go.Ground.phase }, { on := 13, ground := Go.Ground.phase }, { on := 14, ground := Go.Ground.phase }, { on := 15, ground := Go.Ground.phase }, { on := 16, ground := Go.Ground.phase }, { on := 17, ground := Go.Ground.phase }, { on := 18, ground := Go.Ground.phase }, { on := 19, ground := Go.Ground.phase }], guard := none }] true).wp Tryd.prog Q { tmps := List.toArray (t0 :: t1 :: t2 :: t3 :: t4 :: t5 :: .pointer (some ⟨B, 0, none⟩) :: t7 :: t8 :: t9 :: .string z :: t11 :: .int .i64 (j : Int) :: .int .u64 (x : Int) :: t14 :: t15 :: t16 :: t17 :: t18 :: t19 :: t20 :: t21 :: t22 :: t23 :: t24 :: t25 :: t26 :: t27 :: t28 :: t29 :: t30 :: t31 :: t32 :: t33 :: t34 :: t35 :: t36 :: t37 :: t38 :: t39 :: t40 :: t41 :: t42 :: t43 :: t44 :: t45 :: t46 :: t47 :: t48 :: t49 :: t50 :: t51 :: t52 :: t53 :: t54 :: t55 :: t56 :: t57 :: t58 :: t59 :: t60 :: t61 :: t62 :: t63 :: t64 :: t65 :: t66 :: t67 :: t68 :: t69 :: t70 :: t71 :: t72 :: t73 :: t74 :: t75 :: t76 :: t77 :: t78 :: t79 :: t80 :: t81 :: t82 :: t83 :: t84 :: t85 :: t86 :: t87 :: t88 :: t89 :: t90 :: t91 :: t92 :: t93 :: t94 :: t95 :: t96 :: t97 :: t98 :: []), defers := [] } w := by
  have hlen := digB_len 10 (by omega) x 64 (by omega)
  obtain ⟨y, hy⟩ : ∃ y : ByteArray, y = ⟨(digB 10 x).toArray⟩ := ⟨_, rfl⟩
  have hys : y.size ≤ 65 := by
    rw [hy, mk_size]
    omega
  have hps : (pfxB 0).size ≤ 2 := by decide
  have hs1 : (pfxB 0 ++ y).size ≤ 70 := sz_cat _ _ 2 65 70 hps hys (by omega)
  have hs2 : (pfxB 0 ++ y ++ ⟨#[46]⟩).size ≤ 80 := sz_cat _ _ 70 1 80 hs1 (by decide) (by omega)
  have HY := Lib.hid hy
  have HQ := Aside0.mk hQ
  clear hQ
  rw [← hy] at HQ
  clear hy hlen
  have hbt : (bv : Int).tmod 3 = 0 := by rw [Int.tmod_eq_emod_of_nonneg (by omega)]; exact hbm
  have hj0 : (0 : Int) ≤ (j : Int) := by omega
  have hj1 : (j : Int) < 4 := by omega
  refine wp_region_noPanic ?_
  refine wp_region_held_drew (S := fun W => Below w.drew.heap.size w.drew W) (by kernel_rfl) (Below.refl _ _) (fun _ => ?_)
  have HW0 : Aside0 (Below w.heap.size w w.drew) := ⟨⟨rfl, rfl, rfl, Nat.le_refl _, fun _ _ => rfl⟩⟩
  have cB0 : w.drew.cell? ⟨B, j, none⟩ = some (.int .u8 (bv : Int)) := hc
  have hB0 : B < w.drew.heap.size := hB
  generalize w.drew = W0 at *
  refine wpAnyH_take (i := 0) (oi := { dst := some 45, op := Go.Op.move (Go.Operand.tmp 10), type := 9, pos := "law.go:63", after := #[], guard := none }) (v := ?_) rfl (by kernel_rfl) (by kernel_rfl) (by kernel_rfl) (fun _ _ _ h => h) (Or.inl ⟨by rfl, ?_⟩) (Below.refl _ _) ?_
  rotate_left
  · intro W hW
    clear hW
    go_simp
    all_goals with_reducible rfl
  try simp only [Act.put, List.setIfInBounds_toArray, List.set_cons_zero, List.set_cons_succ]
  refine wpAnyH_take (i := 2) (oi := { dst := some 47, op := Go.Op.move (Go.Operand.tmp 12), type := 3, pos := "law.go:63", after := #[], guard := none }) (v := ?_) rfl (by kernel_rfl) (by kernel_rfl) (by kernel_rfl) (fun _ _ _ h => h) (Or.inl ⟨by rfl, ?_⟩) (Below.refl _ _) ?_
  rotate_left
  · intro W hW
    clear hW
    go_simp
    all_goals with_reducible rfl
  try simp only [Act.put, List.setIfInBounds_toArray, List.set_cons_zero, List.set_cons_succ]
  refine wpAnyH_take (i := 3) (oi := { dst := some 48, op := Go.Op.indexAddr 31 (Go.Operand.tmp 6) (Go.Operand.tmp 47), type := 0, pos := "law.go:63", after := #[{ on := 2, ground := Go.Ground.data }], guard := none }) (v := ?_) rfl (by kernel_rfl) (by kernel_rfl) (by kernel_rfl) (fun _ _ _ h => h) (Or.inl ⟨by rfl, ?_⟩) (Below.refl _ _) ?_
  rotate_left
  · intro W hW
    clear hW
    go_simp
    all_goals with_reducible rfl
  try simp only [Act.put, List.setIfInBounds_toArray, List.set_cons_zero, List.set_cons_succ]
  refine wpAnyH_take (i := 4) (oi := { dst := some 49, op := Go.Op.load 5 (Go.Operand.tmp 48), type := 5, pos := "law.go:63", after := #[{ on := 3, ground := Go.Ground.data }], guard := none }) (v := ?_) rfl (by kernel_rfl) (by kernel_rfl) (by kernel_rfl) (fun _ _ _ h => h) (Or.inl ⟨by rfl, ?_⟩) (Below.refl _ _) ?_
  rotate_left
  · intro W hW
    have hld := (Below.cell hW hB0).trans cB0
    clear hW
    go_simp
    all_goals with_reducible rfl
  try simp only [Act.put, List.setIfInBounds_toArray, List.set_cons_zero, List.set_cons_succ]
  refine wpAnyH_take (i := 5) (oi := { dst := some 50, op := Go.Op.binOp Go.BinOp.rem 5 (Go.Operand.tmp 49) (Go.Operand.const (Go.Value.int Go.IntKind.u8 3)) 5, type := 5, pos := "law.go:63", after := #[{ on := 4, ground := Go.Ground.data }], guard := none }) (v := ?_) rfl (by kernel_rfl) (by kernel_rfl) (by kernel_rfl) (fun _ _ _ h => h) (Or.inl ⟨by rfl, ?_⟩) (Below.refl _ _) ?_
  rotate_left
  · intro W hW
    clear hW
    go_simp
    all_goals with_reducible rfl
  try simp only [Act.put, List.setIfInBounds_toArray, List.set_cons_zero, List.set_cons_succ]
  refine wpAnyH_take (i := 8) (oi := { dst := some 53, op := Go.Op.move (Go.Operand.tmp 13), type := 32, pos := "law.go:63", after := #[], guard := none }) (v := ?_) rfl (by kernel_rfl) (by kernel_rfl) (by kernel_rfl) (fun _ _ _ h => h) (Or.inl ⟨by rfl, ?_⟩) (Below.refl _ _) ?_
  rotate_left
  · intro W hW
    clear hW
    go_simp
    all_goals with_reducible rfl
  try simp only [Act.put, List.setIfInBounds_toArray, List.set_cons_zero, List.set_cons_succ]
  refine wpAnyH_take (i := 10) (oi := { dst := some 55, op := Go.Op.move (Go.Operand.tmp 12), type := 3, pos := "law.go:63", after := #[], guard := none }) (v := ?_) rfl (by kernel_rfl) (by kernel_rfl) (by kernel_rfl) (fun _ _ _ h => h) (Or.inl ⟨by rfl, ?_⟩) (Below.refl _ _) ?_
  rotate_left
  · intro W hW
    clear hW
    go_simp
    all_goals with_reducible rfl
  try simp only [Act.put, List.setIfInBounds_toArray, List.set_cons_zero, List.set_cons_succ]
  refine wpAnyH_take (i := 11) (oi := { dst := some 56, op := Go.Op.indexAddr 31 (Go.Operand.tmp 6) (Go.Operand.tmp 55), type := 0, pos := "law.go:63", after := #[{ on := 10, ground := Go.Ground.data }], guard := none }) (v := ?_) rfl (by kernel_rfl) (by kernel_rfl) (by kernel_rfl) (fun _ _ _ h => h) (Or.inl ⟨by rfl, ?_⟩) (Below.refl _ _) ?_
  rotate_left
  · intro W hW
    clear hW
    go_simp
    all_goals with_reducible rfl
  try simp only [Act.put, List.setIfInBounds_toArray, List.set_cons_zero, List.set_cons_succ]
  refine wpAnyH_take (i := 12) (oi := { dst := some 57, op := Go.Op.load 5 (Go.Operand.tmp 56), type := 5, pos := "law.go:63", after := #[{ on := 11, ground := Go.Ground.data }], guard := none }) (v := ?_) rfl (by kernel_rfl) (by kernel_rfl) (by kernel_rfl) (fun _ _ _ h => h) (Or.inl ⟨by rfl, ?_⟩) (Below.refl _ _) ?_
  rotate_left
  · intro W hW
    have hld := (Below.cell hW hB0).trans cB0
    clear hW
    go_simp
    all_goals with_reducible rfl
  try simp only [Act.put, List.setIfInBounds_toArray, List.set_cons_zero, List.set_cons_succ]
  refine wpAnyH_take (i := 13) (oi := { dst := some 58, op := Go.Op.binOp Go.BinOp.rem 5 (Go.Operand.tmp 57) (Go.Operand.const (Go.Value.int Go.IntKind.u8 3)) 5, type := 5, pos := "law.go:63", after := #[{ on := 12, ground := Go.Ground.data }], guard := none }) (v := ?_) rfl (by kernel_rfl) (by kernel_rfl) (by kernel_rfl) (fun _ _ _ h => h) (Or.inl ⟨by rfl, ?_⟩) (Below.refl _ _) ?_
  rotate_left
  · intro W hW
    clear hW
    go_simp
    all_goals with_reducible rfl
  try simp only [Act.put, List.setIfInBounds_toArray, List.set_cons_zero, List.set_cons_succ]
  refine wpAnyH_ready (rs := [1, 9]) (by kernel_rfl) (by simp) ?_
  refine AllReadyH.cons (o := { dst := some 46, op := Go.Op.buildSlice 33 3 #[(0, Go.Operand.const (Go.Value.string { data := #[] })), (1, Go.Operand.const (Go.Value.string { data := #[48] })), (2, Go.Operand.const (Go.Value.string { data := #[48, 120] }))], type := 33, pos := "law.go:63", after := #[], guard := none }) rfl (fun K hK => ?_) ?_
  · go_simp
    refine hK.out _ _ ((Below.refl _ _).alloc (Nat.le_refl _) _) (fun _ => ?_)
    clear hK K
    try simp only [Act.put, List.setIfInBounds_toArray, List.set_cons_zero, List.set_cons_succ]
    refine wpAnyH_move ((Below.refl _ _).alloc (Nat.le_refl _) _) ?_
    obtain ⟨W1, hW⟩ : ∃ W', W' = W0.alloc (.cells #[Go.Value.string { data := #[] }, Go.Value.string { data := #[48] }, Go.Value.string { data := #[48, 120] }] 9) := ⟨_, rfl⟩
    rw [← hW]
    have cS1 : W1.cell? ⟨W0.heap.size, 0, none⟩ = some (.string (pfxB 0)) := by rw [hW, World.cell?_alloc_new]; rfl
    have hS1 : W0.heap.size < W1.heap.size := by rw [hW]; simp
    have hk : Below W0.heap.size W0 W1 := by rw [hW]; exact (Below.refl _ _).alloc (Nat.le_refl _) _
    clear hW
    have HW1 := Aside0.mk (below_then HW0.out HW0.out.size hk)
    have cB1 := (hk.cell hB0).trans cB0
    have hB1 := Nat.lt_of_lt_of_le hB0 hk.size
    clear hk
    clear cB0
    refine wpAnyH_take (i := 6) (oi := { dst := some 51, op := Go.Op.indexAddr 33 (Go.Operand.tmp 46) (Go.Operand.tmp 50), type := 0, pos := "law.go:63", after := #[{ on := 1, ground := Go.Ground.data }, { on := 5, ground := Go.Ground.data }], guard := none }) (v := ?_) rfl (by kernel_rfl) (by kernel_rfl) (by kernel_rfl) (fun _ _ _ h => h) (Or.inl ⟨by rfl, ?_⟩) (Below.refl _ _) ?_
    rotate_left
    · intro W hW
      clear hW
      go_simp
      all_goals with_reducible rfl
    try simp only [Act.put, List.setIfInBounds_toArray, List.set_cons_zero, List.set_cons_succ]
    refine wpAnyH_take (i := 7) (oi := { dst := some 52, op := Go.Op.load 9 (Go.Operand.tmp 51), type := 9, pos := "law.go:63", after := #[{ on := 6, ground := Go.Ground.data }], guard := none }) (v := ?_) rfl (by kernel_rfl) (by kernel_rfl) (by kernel_rfl) (fun _ _ _ h => h) (Or.inl ⟨by rfl, ?_⟩) (Below.refl _ _) ?_
    rotate_left
    · intro W hW
      have hld := (Below.cell hW hS1).trans cS1
      clear hW
      go_simp
      all_goals with_reducible rfl
    try simp only [Act.put, List.setIfInBounds_toArray, List.set_cons_zero, List.set_cons_succ]
    refine wpAnyH_ready (rs := [9]) (by kernel_rfl) (by simp) ?_
    refine AllReadyH.cons (o := { dst := some 54, op := Go.Op.buildSlice 35 3 #[(0, Go.Operand.const (Go.Value.int Go.IntKind.i64 10)), (1, Go.Operand.const (Go.Value.int Go.IntKind.i64 8)), (2, Go.Operand.const (Go.Value.int Go.IntKind.i64 16))], type := 35, pos := "law.go:63", after := #[], guard := none }) rfl (fun K hK => ?_) ?_
    · go_simp
      refine hK.out _ _ ((Below.refl _ _).alloc (Nat.le_refl _) _) (fun _ => ?_)
      clear hK K
      try simp only [Act.put, List.setIfInBounds_toArray, List.set_cons_zero, List.set_cons_succ]
      refine wpAnyH_move ((Below.refl _ _).alloc (Nat.le_refl _) _) ?_
      obtain ⟨W2, hW⟩ : ∃ W', W' = W1.alloc (.cells #[Go.Value.int Go.IntKind.i64 10, Go.Value.int Go.IntKind.i64 8, Go.Value.int Go.IntKind.i64 16] 3) := ⟨_, rfl⟩
      rw [← hW]
      have cI2 : W2.cell? ⟨W1.heap.size, 0, none⟩ = some (.int .i64 10) := by rw [hW, World.cell?_alloc_new]; rfl
      have hI2 : W1.heap.size < W2.heap.size := by rw [hW]; simp
      have hk : Below W1.heap.size W1 W2 := by rw [hW]; exact (Below.refl _ _).alloc (Nat.le_refl _) _
      clear hW
      have HW2 := Aside0.mk (below_then HW1.out HW1.out.size hk)
      have cB2 := (hk.cell hB1).trans cB1
      have hB2 := Nat.lt_of_lt_of_le hB1 hk.size
      have cS2 := (hk.cell hS1).trans cS1
      have hS2 := Nat.lt_of_lt_of_le hS1 hk.size
      clear hk
      clear cB1 cS1
      refine wpAnyH_take (i := 14) (oi := { dst := some 59, op := Go.Op.indexAddr 35 (Go.Operand.tmp 54) (Go.Operand.tmp 58), type := 0, pos := "law.go:63", after := #[{ on := 9, ground := Go.Ground.data }, { on := 13, ground := Go.Ground.data }], guard := none }) (v := ?_) rfl (by kernel_rfl) (by kernel_rfl) (by kernel_rfl) (fun _ _ _ h => h) (Or.inl ⟨by rfl, ?_⟩) (Below.refl _ _) ?_
      rotate_left
      · intro W hW
        clear hW
        go_simp
        all_goals with_reducible rfl
      try simp only [Act.put, List.setIfInBounds_toArray, List.set_cons_zero, List.set_cons_succ]
      refine wpAnyH_take (i := 15) (oi := { dst := some 60, op := Go.Op.load 3 (Go.Operand.tmp 59), type := 3, pos := "law.go:63", after := #[{ on := 14, ground := Go.Ground.data }], guard := none }) (v := ?_) rfl (by kernel_rfl) (by kernel_rfl) (by kernel_rfl) (fun _ _ _ h => h) (Or.inl ⟨by rfl, ?_⟩) (Below.refl _ _) ?_
      rotate_left
      · intro W hW
        have hld := (Below.cell hW hI2).trans cI2
        clear hW
        go_simp
        all_goals with_reducible rfl
      try simp only [Act.put, List.setIfInBounds_toArray, List.set_cons_zero, List.set_cons_succ]
      refine wpAnyH_ready (rs := [16]) (by kernel_rfl) (by simp) ?_
      refine AllReadyH.cons (o := { dst := some 61, op := Go.Op.call { callee := Go.Callee.value (Go.Operand.func 16), args := #[Go.Operand.tmp 53, Go.Operand.tmp 60], argTypes := #[32, 3] }, type := 9, pos := "law.go:63", after := #[{ on := 8, ground := Go.Ground.data }, { on := 15, ground := Go.Ground.data }], guard := none }) rfl (fun K hK => ?_) ?_
      · go_simp
        refine (FormatUint_calls 10 (by omega) x hx W2 (hP.out.stays HW2.out) (hT.out.stays HW2.out)).mono ?_
        rintro e W3 ⟨rfl, hk⟩
        rw [← HY.out]
        refine hK.out _ _ hk (fun _ => ?_)
        clear hK K
        try simp only [Act.put, List.setIfInBounds_toArray, List.set_cons_zero, List.set_cons_succ]
        refine wpAnyH_move hk ?_
        have HW3 := Aside0.mk (below_then HW2.out HW2.out.size hk)
        have cB3 := (hk.cell hB2).trans cB2
        have hB3 := Nat.lt_of_lt_of_le hB2 hk.size
        have cI3 := (hk.cell hI2).trans cI2
        have hI3 := Nat.lt_of_lt_of_le hI2 hk.size
        have cS3 := (hk.cell hS2).trans cS2
        have hS3 := Nat.lt_of_lt_of_le hS2 hk.size
        clear hk
        clear cB2 cI2 cS2
        refine wpAnyH_ready (rs := [17]) (by kernel_rfl) (by simp) ?_
        refine AllReadyH.cons (o := { dst := some 62, op := Go.Op.binOp Go.BinOp.add 9 (Go.Operand.tmp 52) (Go.Operand.tmp 61) 9, type := 9, pos := "law.go:63", after := #[{ on := 7, ground := Go.Ground.data }, { on := 16, ground := Go.Ground.data }], guard := none }) rfl (fun K hK => ?_) ?_
        · go_simp
          go_wp2_with fail
          refine hK.out _ _ (Below.refl _ _) (fun _ => ?_)
          clear hK K
          try simp only [Act.put, List.setIfInBounds_toArray, List.set_cons_zero, List.set_cons_succ]
          refine wpAnyH_ready (rs := [18]) (by kernel_rfl) (by simp) ?_
          refine AllReadyH.cons (o := { dst := some 63, op := Go.Op.binOp Go.BinOp.add 9 (Go.Operand.tmp 62) (Go.Operand.const (Go.Value.string { data := #[46] })) 9, type := 9, pos := "law.go:63", after := #[{ on := 17, ground := Go.Ground.data }], guard := none }) rfl (fun K hK => ?_) ?_
          · go_simp
            go_wp2_with fail
            refine hK.out _ _ (Below.refl _ _) (fun _ => ?_)
            clear hK K
            try simp only [Act.put, List.setIfInBounds_toArray, List.set_cons_zero, List.set_cons_succ]
            refine wpAnyH_ready (rs := [19]) (by kernel_rfl) (by simp) ?_
            refine AllReadyH.cons (o := { dst := some 64, op := Go.Op.binOp Go.BinOp.add 9 (Go.Operand.tmp 45) (Go.Operand.tmp 63) 9, type := 9, pos := "law.go:63", after := #[{ on := 0, ground := Go.Ground.data }, { on := 18, ground := Go.Ground.data }], guard := none }) rfl (fun K hK => ?_) ?_
            · go_simp
              go_wp2_with fail
              refine hK.out _ _ (Below.refl _ _) (fun _ => ?_)
              clear hK K
              try simp only [Act.put, List.setIfInBounds_toArray, List.set_cons_zero, List.set_cons_succ]
              refine wpAnyH_ready (rs := [20]) (by kernel_rfl) (by simp) ?_
              refine AllReadyH.cons (o := { dst := some 10, op := Go.Op.assign (Go.Operand.tmp 64), type := 9, pos := "law.go:63", after := #[{ on := 19, ground := Go.Ground.data }, { on := 16, ground := Go.Ground.chain }, { on := 0, ground := Go.Ground.phase }, { on := 1, ground := Go.Ground.phase }, { on := 2, ground := Go.Ground.phase }, { on := 3, ground := Go.Ground.phase }, { on := 4, ground := Go.Ground.phase }, { on := 5, ground := Go.Ground.phase }, { on := 6, ground := Go.Ground.phase }, { on := 7, ground := Go.Ground.phase }, { on := 8, ground := Go.Ground.phase }, { on := 9, ground := Go.Ground.phase }, { on := 10, ground := Go.Ground.phase }, { on := 11, ground := Go.Ground.phase }, { on := 12, ground := Go.Ground.phase }, { on := 13, ground := Go.Ground.phase }, { on := 14, ground := Go.Ground.phase }, { on := 15, ground := Go.Ground.phase }, { on := 16, ground := Go.Ground.phase }, { on := 17, ground := Go.Ground.phase }, { on := 18, ground := Go.Ground.phase }, { on := 19, ground := Go.Ground.phase }], guard := none }) rfl (fun K hK => ?_) ?_
              · go_simp
                refine hK.out _ _ (Below.refl _ _) (fun _ => ?_)
                clear hK K
                try simp only [Act.put, List.setIfInBounds_toArray, List.set_cons_zero, List.set_cons_succ]
                refine wpAnyH_done (by kernel_rfl) ?_ _
                exact HQ.out _ _ _ _ _ _ _ _ _ _ _ _ _ _ _ _ _ _ _ _ W3 HW3.out
              exact AllReadyH.nil
            exact AllReadyH.nil
          exact AllReadyH.nil
        exact AllReadyH.nil
      exact AllReadyH.nil
    exact AllReadyH.nil
  refine AllReadyH.cons (o := { dst := some 54, op := Go.Op.buildSlice 35 3 #[(0, Go.Operand.const (Go.Value.int Go.IntKind.i64 10)), (1, Go.Operand.const (Go.Value.int Go.IntKind.i64 8)), (2, Go.Operand.const (Go.Value.int Go.IntKind.i64 16))], type := 35, pos := "law.go:63", after := #[], guard := none }) rfl (fun K hK => ?_) ?_
  · go_simp
    refine hK.out _ _ ((Below.refl _ _).alloc (Nat.le_refl _) _) (fun _ => ?_)
    clear hK K
    try simp only [Act.put, List.setIfInBounds_toArray, List.set_cons_zero, List.set_cons_succ]
    refine wpAnyH_move ((Below.refl _ _).alloc (Nat.le_refl _) _) ?_
    obtain ⟨W1, hW⟩ : ∃ W', W' = W0.alloc (.cells #[Go.Value.int Go.IntKind.i64 10, Go.Value.int Go.IntKind.i64 8, Go.Value.int Go.IntKind.i64 16] 3) := ⟨_, rfl⟩
    rw [← hW]
    have cI1 : W1.cell? ⟨W0.heap.size, 0, none⟩ = some (.int .i64 10) := by rw [hW, World.cell?_alloc_new]; rfl
    have hI1 : W0.heap.size < W1.heap.size := by rw [hW]; simp
    have hk : Below W0.heap.size W0 W1 := by rw [hW]; exact (Below.refl _ _).alloc (Nat.le_refl _) _
    clear hW
    have HW1 := Aside0.mk (below_then HW0.out HW0.out.size hk)
    have cB1 := (hk.cell hB0).trans cB0
    have hB1 := Nat.lt_of_lt_of_le hB0 hk.size
    clear hk
    clear cB0
    refine wpAnyH_take (i := 14) (oi := { dst := some 59, op := Go.Op.indexAddr 35 (Go.Operand.tmp 54) (Go.Operand.tmp 58), type := 0, pos := "law.go:63", after := #[{ on := 9, ground := Go.Ground.data }, { on := 13, ground := Go.Ground.data }], guard := none }) (v := ?_) rfl (by kernel_rfl) (by kernel_rfl) (by kernel_rfl) (fun _ _ _ h => h) (Or.inl ⟨by rfl, ?_⟩) (Below.refl _ _) ?_
    rotate_left
    · intro W hW
      clear hW
      go_simp
      all_goals with_reducible rfl
    try simp only [Act.put, List.setIfInBounds_toArray, List.set_cons_zero, List.set_cons_succ]
    refine wpAnyH_take (i := 15) (oi := { dst := some 60, op := Go.Op.load 3 (Go.Operand.tmp 59), type := 3, pos := "law.go:63", after := #[{ on := 14, ground := Go.Ground.data }], guard := none }) (v := ?_) rfl (by kernel_rfl) (by kernel_rfl) (by kernel_rfl) (fun _ _ _ h => h) (Or.inl ⟨by rfl, ?_⟩) (Below.refl _ _) ?_
    rotate_left
    · intro W hW
      have hld := (Below.cell hW hI1).trans cI1
      clear hW
      go_simp
      all_goals with_reducible rfl
    try simp only [Act.put, List.setIfInBounds_toArray, List.set_cons_zero, List.set_cons_succ]
    refine wpAnyH_ready (rs := [1, 16]) (by kernel_rfl) (by simp) ?_
    refine AllReadyH.cons (o := { dst := some 46, op := Go.Op.buildSlice 33 3 #[(0, Go.Operand.const (Go.Value.string { data := #[] })), (1, Go.Operand.const (Go.Value.string { data := #[48] })), (2, Go.Operand.const (Go.Value.string { data := #[48, 120] }))], type := 33, pos := "law.go:63", after := #[], guard := none }) rfl (fun K hK => ?_) ?_
    · go_simp
      refine hK.out _ _ ((Below.refl _ _).alloc (Nat.le_refl _) _) (fun _ => ?_)
      clear hK K
      try simp only [Act.put, List.setIfInBounds_toArray, List.set_cons_zero, List.set_cons_succ]
      refine wpAnyH_move ((Below.refl _ _).alloc (Nat.le_refl _) _) ?_
      obtain ⟨W2, hW⟩ : ∃ W', W' = W1.alloc (.cells #[Go.Value.string { data := #[] }, Go.Value.string { data := #[48] }, Go.Value.string { data := #[48, 120] }] 9) := ⟨_, rfl⟩
      rw [← hW]
      have cS2 : W2.cell? ⟨W1.heap.size, 0, none⟩ = some (.string (pfxB 0)) := by rw [hW, World.cell?_alloc_new]; rfl
      have hS2 : W1.heap.size < W2.heap.size := by rw [hW]; simp
      have hk : Below W1.heap.size W1 W2 := by rw [hW]; exact (Below.refl _ _).alloc (Nat.le_refl _) _
      clear hW
      have HW2 := Aside0.mk (below_then HW1.out HW1.out.size hk)
      have cB2 := (hk.cell hB1).trans cB1
      have hB2 := Nat.lt_of_lt_of_le hB1 hk.size
      have cI2 := (hk.cell hI1).trans cI1
      have hI2 := Nat.lt_of_lt_of_le hI1 hk.size
      clear hk
      clear cB1 cI1
      refine wpAnyH_take (i := 6) (oi := { dst := some 51, op := Go.Op.indexAddr 33 (Go.Operand.tmp 46) (Go.Operand.tmp 50), type := 0, pos := "law.go:63", after := #[{ on := 1, ground := Go.Ground.data }, { on := 5, ground := Go.Ground.data }], guard := none }) (v := ?_) rfl (by kernel_rfl) (by kernel_rfl) (by kernel_rfl) (fun _ _ _ h => h) (Or.inl ⟨by rfl, ?_⟩) (Below.refl _ _) ?_
      rotate_left
      · intro W hW
        clear hW
        go_simp
        all_goals with_reducible rfl
      try simp only [Act.put, List.setIfInBounds_toArray, List.set_cons_zero, List.set_cons_succ]
      refine wpAnyH_take (i := 7) (oi := { dst := some 52, op := Go.Op.load 9 (Go.Operand.tmp 51), type := 9, pos := "law.go:63", after := #[{ on := 6, ground := Go.Ground.data }], guard := none }) (v := ?_) rfl (by kernel_rfl) (by kernel_rfl) (by kernel_rfl) (fun _ _ _ h => h) (Or.inl ⟨by rfl, ?_⟩) (Below.refl _ _) ?_
      rotate_left
      · intro W hW
        have hld := (Below.cell hW hS2).trans cS2
        clear hW
        go_simp
        all_goals with_reducible rfl
      try simp only [Act.put, List.setIfInBounds_toArray, List.set_cons_zero, List.set_cons_succ]
      refine wpAnyH_ready (rs := [16]) (by kernel_rfl) (by simp) ?_
      refine AllReadyH.cons (o := { dst := some 61, op := Go.Op.call { callee := Go.Callee.value (Go.Operand.func 16), args := #[Go.Operand.tmp 53, Go.Operand.tmp 60], argTypes := #[32, 3] }, type := 9, pos := "law.go:63", after := #[{ on := 8, ground := Go.Ground.data }, { on := 15, ground := Go.Ground.data }], guard := none }) rfl (fun K hK => ?_) ?_
      · go_simp
        refine (FormatUint_calls 10 (by omega) x hx W2 (hP.out.stays HW2.out) (hT.out.stays HW2.out)).mono ?_
        rintro e W3 ⟨rfl, hk⟩
        rw [← HY.out]
        refine hK.out _ _ hk (fun _ => ?_)
        clear hK K
        try simp only [Act.put, List.setIfInBounds_toArray, List.set_cons_zero, List.set_cons_succ]
        refine wpAnyH_move hk ?_
        have HW3 := Aside0.mk (below_then HW2.out HW2.out.size hk)
        have cB3 := (hk.cell hB2).trans cB2
        have hB3 := Nat.lt_of_lt_of_le hB2 hk.size
        have cI3 := (hk.cell hI2).trans cI2
        have hI3 := Nat.lt_of_lt_of_le hI2 hk.size
        have cS3 := (hk.cell hS2).trans cS2
        have hS3 := Nat.lt_of_lt_of_le hS2 hk.size
        clear hk
        clear cB2 cI2 cS2
        refine wpAnyH_ready (rs := [17]) (by kernel_rfl) (by simp) ?_
        refine AllReadyH.cons (o := { dst := some 62, op := Go.Op.binOp Go.BinOp.add 9 (Go.Operand.tmp 52) (Go.Operand.tmp 61) 9, type := 9, pos := "law.go:63", after := #[{ on := 7, ground := Go.Ground.data }, { on := 16, ground := Go.Ground.data }], guard := none }) rfl (fun K hK => ?_) ?_
        · go_simp
          go_wp2_with fail
          refine hK.out _ _ (Below.refl _ _) (fun _ => ?_)
          clear hK K
          try simp only [Act.put, List.setIfInBounds_toArray, List.set_cons_zero, List.set_cons_succ]
          refine wpAnyH_ready (rs := [18]) (by kernel_rfl) (by simp) ?_
          refine AllReadyH.cons (o := { dst := some 63, op := Go.Op.binOp Go.BinOp.add 9 (Go.Operand.tmp 62) (Go.Operand.const (Go.Value.string { data := #[46] })) 9, type := 9, pos := "law.go:63", after := #[{ on := 17, ground := Go.Ground.data }], guard := none }) rfl (fun K hK => ?_) ?_
          · go_simp
            go_wp2_with fail
            refine hK.out _ _ (Below.refl _ _) (fun _ => ?_)
            clear hK K
            try simp only [Act.put, List.setIfInBounds_toArray, List.set_cons_zero, List.set_cons_succ]
            refine wpAnyH_ready (rs := [19]) (by kernel_rfl) (by simp) ?_
            refine AllReadyH.cons (o := { dst := some 64, op := Go.Op.binOp Go.BinOp.add 9 (Go.Operand.tmp 45) (Go.Operand.tmp 63) 9, type := 9, pos := "law.go:63", after := #[{ on := 0, ground := Go.Ground.data }, { on := 18, ground := Go.Ground.data }], guard := none }) rfl (fun K hK => ?_) ?_
            · go_simp
              go_wp2_with fail
              refine hK.out _ _ (Below.refl _ _) (fun _ => ?_)
              clear hK K
              try simp only [Act.put, List.setIfInBounds_toArray, List.set_cons_zero, List.set_cons_succ]
              refine wpAnyH_ready (rs := [20]) (by kernel_rfl) (by simp) ?_
              refine AllReadyH.cons (o := { dst := some 10, op := Go.Op.assign (Go.Operand.tmp 64), type := 9, pos := "law.go:63", after := #[{ on := 19, ground := Go.Ground.data }, { on := 16, ground := Go.Ground.chain }, { on := 0, ground := Go.Ground.phase }, { on := 1, ground := Go.Ground.phase }, { on := 2, ground := Go.Ground.phase }, { on := 3, ground := Go.Ground.phase }, { on := 4, ground := Go.Ground.phase }, { on := 5, ground := Go.Ground.phase }, { on := 6, ground := Go.Ground.phase }, { on := 7, ground := Go.Ground.phase }, { on := 8, ground := Go.Ground.phase }, { on := 9, ground := Go.Ground.phase }, { on := 10, ground := Go.Ground.phase }, { on := 11, ground := Go.Ground.phase }, { on := 12, ground := Go.Ground.phase }, { on := 13, ground := Go.Ground.phase }, { on := 14, ground := Go.Ground.phase }, { on := 15, ground := Go.Ground.phase }, { on := 16, ground := Go.Ground.phase }, { on := 17, ground := Go.Ground.phase }, { on := 18, ground := Go.Ground.phase }, { on := 19, ground := Go.Ground.phase }], guard := none }) rfl (fun K hK => ?_) ?_
              · go_simp
                refine hK.out _ _ (Below.refl _ _) (fun _ => ?_)
                clear hK K
                try simp only [Act.put, List.setIfInBounds_toArray, List.set_cons_zero, List.set_cons_succ]
                refine wpAnyH_done (by kernel_rfl) ?_ _
                exact HQ.out _ _ _ _ _ _ _ _ _ _ _ _ _ _ _ _ _ _ _ _ W3 HW3.out
              exact AllReadyH.nil
            exact AllReadyH.nil
          exact AllReadyH.nil
        exact AllReadyH.nil
      exact AllReadyH.nil
    refine AllReadyH.cons (o := { dst := some 61, op := Go.Op.call { callee := Go.Callee.value (Go.Operand.func 16), args := #[Go.Operand.tmp 53, Go.Operand.tmp 60], argTypes := #[32, 3] }, type := 9, pos := "law.go:63", after := #[{ on := 8, ground := Go.Ground.data }, { on := 15, ground := Go.Ground.data }], guard := none }) rfl (fun K hK => ?_) ?_
    · go_simp
      refine (FormatUint_calls 10 (by omega) x hx W1 (hP.out.stays HW1.out) (hT.out.stays HW1.out)).mono ?_
      rintro e W2 ⟨rfl, hk⟩
      rw [← HY.out]
      refine hK.out _ _ hk (fun _ => ?_)
      clear hK K
      try simp only [Act.put, List.setIfInBounds_toArray, List.set_cons_zero, List.set_cons_succ]
      refine wpAnyH_move hk ?_
      have HW2 := Aside0.mk (below_then HW1.out HW1.out.size hk)
      have cB2 := (hk.cell hB1).trans cB1
      have hB2 := Nat.lt_of_lt_of_le hB1 hk.size
      have cI2 := (hk.cell hI1).trans cI1
      have hI2 := Nat.lt_of_lt_of_le hI1 hk.size
      clear hk
      clear cB1 cI1
      refine wpAnyH_ready (rs := [1]) (by kernel_rfl) (by simp) ?_
      refine AllReadyH.cons (o := { dst := some 46, op := Go.Op.buildSlice 33 3 #[(0, Go.Operand.const (Go.Value.string { data := #[] })), (1, Go.Operand.const (Go.Value.string { data := #[48] })), (2, Go.Operand.const (Go.Value.string { data := #[48, 120] }))], type := 33, pos := "law.go:63", after := #[], guard := none }) rfl (fun K hK => ?_) ?_
      · go_simp
        refine hK.out _ _ ((Below.refl _ _).alloc (Nat.le_refl _) _) (fun _ => ?_)
        clear hK K
        try simp only [Act.put, List.setIfInBounds_toArray, List.set_cons_zero, List.set_cons_succ]
        refine wpAnyH_move ((Below.refl _ _).alloc (Nat.le_refl _) _) ?_
        obtain ⟨W3, hW⟩ : ∃ W', W' = W2.alloc (.cells #[Go.Value.string { data := #[] }, Go.Value.string { data := #[48] }, Go.Value.string { data := #[48, 120] }] 9) := ⟨_, rfl⟩
        rw [← hW]
        have cS3 : W3.cell? ⟨W2.heap.size, 0, none⟩ = some (.string (pfxB 0)) := by rw [hW, World.cell?_alloc_new]; rfl
        have hS3 : W2.heap.size < W3.heap.size := by rw [hW]; simp
        have hk : Below W2.heap.size W2 W3 := by rw [hW]; exact (Below.refl _ _).alloc (Nat.le_refl _) _
        clear hW
        have HW3 := Aside0.mk (below_then HW2.out HW2.out.size hk)
        have cB3 := (hk.cell hB2).trans cB2
        have hB3 := Nat.lt_of_lt_of_le hB2 hk.size
        have cI3 := (hk.cell hI2).trans cI2
        have hI3 := Nat.lt_of_lt_of_le hI2 hk.size
        clear hk
        clear cB2 cI2
        refine wpAnyH_take (i := 6) (oi := { dst := some 51, op := Go.Op.indexAddr 33 (Go.Operand.tmp 46) (Go.Operand.tmp 50), type := 0, pos := "law.go:63", after := #[{ on := 1, ground := Go.Ground.data }, { on := 5, ground := Go.Ground.data }], guard := none }) (v := ?_) rfl (by kernel_rfl) (by kernel_rfl) (by kernel_rfl) (fun _ _ _ h => h) (Or.inl ⟨by rfl, ?_⟩) (Below.refl _ _) ?_
        rotate_left
        · intro W hW
          clear hW
          go_simp
          all_goals with_reducible rfl
        try simp only [Act.put, List.setIfInBounds_toArray, List.set_cons_zero, List.set_cons_succ]
        refine wpAnyH_take (i := 7) (oi := { dst := some 52, op := Go.Op.load 9 (Go.Operand.tmp 51), type := 9, pos := "law.go:63", after := #[{ on := 6, ground := Go.Ground.data }], guard := none }) (v := ?_) rfl (by kernel_rfl) (by kernel_rfl) (by kernel_rfl) (fun _ _ _ h => h) (Or.inl ⟨by rfl, ?_⟩) (Below.refl _ _) ?_
        rotate_left
        · intro W hW
          have hld := (Below.cell hW hS3).trans cS3
          clear hW
          go_simp
          all_goals with_reducible rfl
        try simp only [Act.put, List.setIfInBounds_toArray, List.set_cons_zero, List.set_cons_succ]
        refine wpAnyH_ready (rs := [17]) (by kernel_rfl) (by simp) ?_
        refine AllReadyH.cons (o := { dst := some 62, op := Go.Op.binOp Go.BinOp.add 9 (Go.Operand.tmp 52) (Go.Operand.tmp 61) 9, type := 9, pos := "law.go:63", after := #[{ on := 7, ground := Go.Ground.data }, { on := 16, ground := Go.Ground.data }], guard := none }) rfl (fun K hK => ?_) ?_
        · go_simp
          go_wp2_with fail
          refine hK.out _ _ (Below.refl _ _) (fun _ => ?_)
          clear hK K
          try simp only [Act.put, List.setIfInBounds_toArray, List.set_cons_zero, List.set_cons_succ]
          refine wpAnyH_ready (rs := [18]) (by kernel_rfl) (by simp) ?_
          refine AllReadyH.cons (o := { dst := some 63, op := Go.Op.binOp Go.BinOp.add 9 (Go.Operand.tmp 62) (Go.Operand.const (Go.Value.string { data := #[46] })) 9, type := 9, pos := "law.go:63", after := #[{ on := 17, ground := Go.Ground.data }], guard := none }) rfl (fun K hK => ?_) ?_
          · go_simp
            go_wp2_with fail
            refine hK.out _ _ (Below.refl _ _) (fun _ => ?_)
            clear hK K
            try simp only [Act.put, List.setIfInBounds_toArray, List.set_cons_zero, List.set_cons_succ]
            refine wpAnyH_ready (rs := [19]) (by kernel_rfl) (by simp) ?_
            refine AllReadyH.cons (o := { dst := some 64, op := Go.Op.binOp Go.BinOp.add 9 (Go.Operand.tmp 45) (Go.Operand.tmp 63) 9, type := 9, pos := "law.go:63", after := #[{ on := 0, ground := Go.Ground.data }, { on := 18, ground := Go.Ground.data }], guard := none }) rfl (fun K hK => ?_) ?_
            · go_simp
              go_wp2_with fail
              refine hK.out _ _ (Below.refl _ _) (fun _ => ?_)
              clear hK K
              try simp only [Act.put, List.setIfInBounds_toArray, List.set_cons_zero, List.set_cons_succ]
              refine wpAnyH_ready (rs := [20]) (by kernel_rfl) (by simp) ?_
              refine AllReadyH.cons (o := { dst := some 10, op := Go.Op.assign (Go.Operand.tmp 64), type := 9, pos := "law.go:63", after := #[{ on := 19, ground := Go.Ground.data }, { on := 16, ground := Go.Ground.chain }, { on := 0, ground := Go.Ground.phase }, { on := 1, ground := Go.Ground.phase }, { on := 2, ground := Go.Ground.phase }, { on := 3, ground := Go.Ground.phase }, { on := 4, ground := Go.Ground.phase }, { on := 5, ground := Go.Ground.phase }, { on := 6, ground := Go.Ground.phase }, { on := 7, ground := Go.Ground.phase }, { on := 8, ground := Go.Ground.phase }, { on := 9, ground := Go.Ground.phase }, { on := 10, ground := Go.Ground.phase }, { on := 11, ground := Go.Ground.phase }, { on := 12, ground := Go.Ground.phase }, { on := 13, ground := Go.Ground.phase }, { on := 14, ground := Go.Ground.phase }, { on := 15, ground := Go.Ground.phase }, { on := 16, ground := Go.Ground.phase }, { on := 17, ground := Go.Ground.phase }, { on := 18, ground := Go.Ground.phase }, { on := 19, ground := Go.Ground.phase }], guard := none }) rfl (fun K hK => ?_) ?_
              · go_simp
                refine hK.out _ _ (Below.refl _ _) (fun _ => ?_)
                clear hK K
                try simp only [Act.put, List.setIfInBounds_toArray, List.set_cons_zero, List.set_cons_succ]
                refine wpAnyH_done (by kernel_rfl) ?_ _
                exact HQ.out _ _ _ _ _ _ _ _ _ _ _ _ _ _ _ _ _ _ _ _ W3 HW3.out
              exact AllReadyH.nil
            exact AllReadyH.nil
          exact AllReadyH.nil
        exact AllReadyH.nil
      exact AllReadyH.nil
    exact AllReadyH.nil
  exact AllReadyH.nil
set_option maxHeartbeats 40000000 in
set_option maxRecDepth 100000 in
theorem short_reg12_1 {t0 t1 t2 t3 t4 t5 t7 t8 t9 t11 t14 t15 t16 t17 t18 t19 t20 t21 t22 t23 t24 t25 t26 t27 t28 t29 t30 t31 t32 t33 t34 t35 t36 t37 t38 t39 t40 t41 t42 t43 t44 t45 t46 t47 t48 t49 t50 t51 t52 t53 t54 t55 t56 t57 t58 t59 t60 t61 t62 t63 t64 t65 t66 t67 t68 t69 t70 t71 t72 t73 t74 t75 t76 t77 t78 t79 t80 t81 t82 t83 t84 t85 t86 t87 t88 t89 t90 t91 t92 t93 t94 t95 t96 t97 t98 : Value} (B j x bv : Nat) (z : ByteArray) (Q : Exit → Act → World → Prop) (w : World) (hj : j < 4) (hx : x < 18446744073709551616) (hbm : (bv : Int) % 3 = 1) (hz : z.size ≤ 400)
    (hB : B < w.heap.size) (hc : w.cell? ⟨B, j, none⟩ = some (.int .u8 (bv : Int))) (hP : Aside0 (Pows w)) (hT : Aside0 (Debr w))
    (hQ : ∀ (s45 s46 s47 s48 s49 s50 s51 s52 s53 s54 s55 s56 s57 s58 s59 s60 s61 s62 s63 s64 : Value) (W : World), Below w.heap.size w W → Q .normal { tmps := List.toArray (t0 :: t1 :: t2 :: t3 :: t4 :: t5 :: .pointer (some ⟨B, 0, none⟩) :: t7 :: t8 :: t9 :: .string (z ++ (pfxB 1 ++ ⟨(digB 8 x).toArray⟩ ++ ⟨#[46]⟩)) :: t11 :: .int .i64 (j : Int) :: .int .u64 (x : Int) :: t14 :: t15 :: t16 :: t17 :: t18 :: t19 :: t20 :: t21 :: t22 :: t23 :: t24 :: t25 :: t26 :: t27 :: t28 :: t29 :: t30 :: t31 :: t32 :: t33 :: t34 :: t35 :: t36 :: t37 :: t38 :: t39 :: t40 :: t41 :: t42 :: t43 :: t44 :: s45 :: s46 :: s47 :: s48 :: s49 :: s50 :: s51 :: s52 :: s53 :: s54 :: s55 :: s56 :: s57 :: s58 :: s59 :: s60 :: s61 :: s62 :: s63 :: s64 :: t65 :: t66 :: t67 :: t68 :: t69 :: t70 :: t71 :: t72 :: t73 :: t74 :: t75 :: t76 :: t77 :: t78 :: t79 :: t80 :: t81 :: t82 :: t83 :: t84 :: t85 :: t86 :: t87 :: t88 :: t89 :: t90 :: t91 :: t92 :: t93 :: t94 :: t95 :: t96 :: t97 :: t98 :: []), defers := [] } W) :
    (Code.region 12 #[{ dst := some 45, op := Go.Op.move (Go.Operand.tmp 10), type := 9, pos := "law.go:63", after := #[], guard := none }, { dst := some 46, op := Go.Op.buildSlice 33 3 #[(0, Go.Operand.const (Go.Value.string { data := #[] })), (1, Go.Operand.const (Go.Value.string { data := #[48] })), (2, Go.Operand.const (Go.Value.string { data := #[48, 120] }))], type := 33, pos := "law.go:63", after := #[], guard := none }, { dst := some 47, op := Go.Op.move (Go.Operand.tmp 12), type := 3, pos := "law.go:63", after := #[], guard := none }, { dst := some 48, op := Go.Op.indexAddr 31 (Go.Operand.tmp 6) (Go.Operand.tmp 47), type := 0, pos := "law.go:63", after := #[{ on := 2, ground := Go.Ground.data }], guard := none }, { dst := some 49, op := Go.Op.load 5 (Go.Operand.tmp 48), type := 5, pos := "law.go:63", after := #[{ on := 3, ground := Go.Ground.data }], guard := none }, { dst := some 50, op := Go.Op.binOp Go.BinOp.rem 5 (Go.Operand.tmp 49) (Go.Operand.const (Go.Value.int Go.IntKind.u8 3)) 5, type := 5, pos := "law.go:63", after := #[{ on := 4, ground := Go.Ground.data }], guard := none }, { dst := some 51, op := Go.Op.indexAddr 33 (Go.Operand.tmp 46) (Go.Operand.tmp 50), type := 0, pos := "law.go:63", after := #[{ on := 1, ground := Go.Ground.data }, { on := 5, ground := Go.Ground.data }], guard := none }, { dst := some 52, op := Go.Op.load 9 (Go.Operand.tmp 51), type := 9, pos := "law.go:63", after := #[{ on := 6, ground := Go.Ground.data }], guard := none }, { dst := some 53, op := Go.Op.move (Go.Operand.tmp 13), type := 32, pos := "law.go:63", after := #[], guard := none }, { dst := some 54, op := Go.Op.buildSlice 35 3 #[(0, Go.Operand.const (Go.Value.int Go.IntKind.i64 10)), (1, Go.Operand.const (Go.Value.int Go.IntKind.i64 8)), (2, Go.Operand.const (Go.Value.int Go.IntKind.i64 16))], type := 35, pos := "law.go:63", after := #[], guard := none }, { dst := some 55, op := Go.Op.move (Go.Operand.tmp 12), type := 3, pos := "law.go:63", after := #[], guard := none }, { dst := some 56, op := Go.Op.indexAddr 31 (Go.Operand.tmp 6) (Go.Operand.tmp 55), type := 0, pos := "law.go:63", after := #[{ on := 10, ground := Go.Ground.data }], guard := none }, { dst := some 57, op := Go.Op.load 5 (Go.Operand.tmp 56), type := 5, pos := "law.go:63", after := #[{ on := 11, ground := Go.Ground.data }], guard := none }, { dst := some 58, op := Go.Op.binOp Go.BinOp.rem 5 (Go.Operand.tmp 57) (Go.Operand.const (Go.Value.int Go.IntKind.u8 3)) 5, type := 5, pos := "law.go:63", after := #[{ on := 12, ground := Go.Ground.data }], guard := none }, { dst := some 59, op := Go.Op.indexAddr 35 (Go.Operand.tmp 54) (Go.Operand.tmp 58), type := 0, pos := "law.go:63", after := #[{ on := 9, ground := Go.Ground.data }, { on := 13, ground := Go.Ground.data }], guard := none }, { dst := some 60, op := Go.Op.load 3 (Go.Operand.tmp 59), type := 3, pos := "law.go:63", after := #[{ on := 14, ground := Go.Ground.data }], guard := none }, { dst := some 61, op := Go.Op.call { callee := Go.Callee.value (Go.Operand.func 16), args := #[Go.Operand.tmp 53, Go.Operand.tmp 60], argTypes := #[32, 3] }, type := 9, pos := "law.go:63", after := #[{ on := 8, ground := Go.Ground.data }, { on := 15, ground := Go.Ground.data }], guard := none }, { dst := some 62, op := Go.Op.binOp Go.BinOp.add 9 (Go.Operand.tmp 52) (Go.Operand.tmp 61) 9, type := 9, pos := "law.go:63", after := #[{ on := 7, ground := Go.Ground.data }, { on := 16, ground := Go.Ground.data }], guard := none }, { dst := some 63, op := Go.Op.binOp Go.BinOp.add 9 (Go.Operand.tmp 62) (Go.Operand.const (Go.Value.string { data := #[46] })) 9, type := 9, pos := "law.go:63", after := #[{ on := 17, ground := Go.Ground.data }], guard := none }, { dst := some 64, op := Go.Op.binOp Go.BinOp.add 9 (Go.Operand.tmp 45) (Go.Operand.tmp 63) 9, type := 9, pos := "law.go:63", after := #[{ on := 0, ground := Go.Ground.data }, { on := 18, ground := Go.Ground.data }], guard := none }, { dst := some 10, op := Go.Op.assign (Go.Operand.tmp 64), type := 9, pos := "law.go:63", after := #[{ on := 19, ground := Go.Ground.data }, { on := 16, ground := Go.Ground.chain }, { on := 0, ground := Go.Ground.phase }, { on := 1, ground := Go.Ground.phase }, { on := 2, ground := Go.Ground.phase }, { on := 3, ground := Go.Ground.phase }, { on := 4, ground := Go.Ground.phase }, { on := 5, ground := Go.Ground.phase }, { on := 6, ground := Go.Ground.phase }, { on := 7, ground := Go.Ground.phase }, { on := 8, ground := Go.Ground.phase }, { on := 9, ground := Go.Ground.phase }, { on := 10, ground := Go.Ground.phase }, { on := 11, ground := Go.Ground.phase }, { on := 12, ground := Go.Ground.phase }, { on := 13, ground := Go.Ground.phase }, { on := 14, ground := Go.Ground.phase }, { on := 15, ground := Go.Ground.phase }, { on := 16, ground := Go.Ground.phase }, { on := 17, ground := Go.Ground.phase }, { on := 18, ground := Go.Ground.phase }, { on := 19, ground := Go.Ground.phase }], guard := none }] true).wp Tryd.prog Q { tmps := List.toArray (t0 :: t1 :: t2 :: t3 :: t4 :: t5 :: .pointer (some ⟨B, 0, none⟩) :: t7 :: t8 :: t9 :: .string z :: t11 :: .int .i64 (j : Int) :: .int .u64 (x : Int) :: t14 :: t15 :: t16 :: t17 :: t18 :: t19 :: t20 :: t21 :: t22 :: t23 :: t24 :: t25 :: t26 :: t27 :: t28 :: t29 :: t30 :: t31 :: t32 :: t33 :: t34 :: t35 :: t36 :: t37 :: t38 :: t39 :: t40 :: t41 :: t42 :: t43 :: t44 :: t45 :: t46 :: t47 :: t48 :: t49 :: t50 :: t51 :: t52 :: t53 :: t54 :: t55 :: t56 :: t57 :: t58 :: t59 :: t60 :: t61 :: t62 :: t63 :: t64 :: t65 :: t66 :: t67 :: t68 :: t69 :: t70 :: t71 :: t72 :: t73 :: t74 :: t75 :: t76 :: t77 :: t78 :: t79 :: t80 :: t81 :: t82 :: t83 :: t84 :: t85 :: t86 :: t87 :: t88 :: t89 :: t90 :: t91 :: t92 :: t93 :: t94 :: t95 :: t96 :: t97 :: t98 :: []), defers := [] } w := by
  have hlen := digB_len 8 (by omega) x 64 (by omega)
  obtain ⟨y, hy⟩ : ∃ y : ByteArray, y = ⟨(digB 8 x).toArray⟩ := ⟨_, rfl⟩
  have hys : y.size ≤ 65 := by
    rw [hy, mk_size]
    omega
  have hps : (pfxB 1).size ≤ 2 := by decide
  have hs1 : (pfxB 1 ++ y).size ≤ 70 := sz_cat _ _ 2 65 70 hps hys (by omega)
  have hs2 : (pfxB 1 ++ y ++ ⟨#[46]⟩).size ≤ 80 := sz_cat _ _ 70 1 80 hs1 (by decide) (by omega)
  have HY := Lib.hid hy
  have HQ := Aside0.mk hQ
  clear hQ
  rw [← hy] at HQ
  clear hy hlen
  have hbt : (bv : Int).tmod 3 = 1 := by rw [Int.tmod_eq_emod_of_nonneg (by omega)]; exact hbm
  have hj0 : (0 : Int) ≤ (j : Int) := by omega
  have hj1 : (j : Int) < 4 := by omega
  refine wp_region_noPanic ?_
  refine wp_region_held_drew (S := fun W => Below w.drew.heap.size w.drew W) (by kernel_rfl) (Below.refl _ _) (fun _ => ?_)
  have HW0 : Aside0 (Below w.heap.size w w.drew) := ⟨⟨rfl, rfl, rfl, Nat.le_refl _, fun _ _ => rfl⟩⟩
  have cB0 : w.drew.cell? ⟨B, j, none⟩ = some (.int .u8 (bv : Int)) := hc
  have hB0 : B < w.drew.heap.size := hB
  generalize w.drew = W0 at *
  refine wpAnyH_take (i := 0) (oi := { dst := some 45, op := Go.Op.move (Go.Operand.tmp 10), type := 9, pos := "law.go:63", after := #[], guard := none }) (v := ?_) rfl (by kernel_rfl) (by kernel_rfl) (by kernel_rfl) (fun _ _ _ h => h) (Or.inl ⟨by rfl, ?_⟩) (Below.refl _ _) ?_
  rotate_left
  · intro W hW
    clear hW
    go_simp
    all_goals with_reducible rfl
  try simp only [Act.put, List.setIfInBounds_toArray, List.set_cons_zero, List.set_cons_succ]
  refine wpAnyH_take (i := 2) (oi := { dst := some 47, op := Go.Op.move (Go.Operand.tmp 12), type := 3, pos := "law.go:63", after := #[], guard := none }) (v := ?_) rfl (by kernel_rfl) (by kernel_rfl) (by kernel_rfl) (fun _ _ _ h => h) (Or.inl ⟨by rfl, ?_⟩) (Below.refl _ _) ?_
  rotate_left
  · intro W hW
    clear hW
    go_simp
    all_goals with_reducible rfl
  try simp only [Act.put, List.setIfInBounds_toArray, List.set_cons_zero, List.set_cons_succ]
  refine wpAnyH_take (i := 3) (oi := { dst := some 48, op := Go.Op.indexAddr 31 (Go.Operand.tmp 6) (Go.Operand.tmp 47), type := 0, pos := "law.go:63", after := #[{ on := 2, ground := Go.Ground.data }], guard := none }) (v := ?_) rfl (by kernel_rfl) (by kernel_rfl) (by kernel_rfl) (fun _ _ _ h => h) (Or.inl ⟨by rfl, ?_⟩) (Below.refl _ _) ?_
  rotate_left
  · intro W hW
    clear hW
    go_simp
    all_goals with_reducible rfl
  try simp only [Act.put, List.setIfInBounds_toArray, List.set_cons_zero, List.set_cons_succ]
  refine wpAnyH_take (i := 4) (oi := { dst := some 49, op := Go.Op.load 5 (Go.Operand.tmp 48), type := 5, pos := "law.go:63", after := #[{ on := 3, ground := Go.Ground.data }], guard := none }) (v := ?_) rfl (by kernel_rfl) (by kernel_rfl) (by kernel_rfl) (fun _ _ _ h => h) (Or.inl ⟨by rfl, ?_⟩) (Below.refl _ _) ?_
  rotate_left
  · intro W hW
    have hld := (Below.cell hW hB0).trans cB0
    clear hW
    go_simp
    all_goals with_reducible rfl
  try simp only [Act.put, List.setIfInBounds_toArray, List.set_cons_zero, List.set_cons_succ]
  refine wpAnyH_take (i := 5) (oi := { dst := some 50, op := Go.Op.binOp Go.BinOp.rem 5 (Go.Operand.tmp 49) (Go.Operand.const (Go.Value.int Go.IntKind.u8 3)) 5, type := 5, pos := "law.go:63", after := #[{ on := 4, ground := Go.Ground.data }], guard := none }) (v := ?_) rfl (by kernel_rfl) (by kernel_rfl) (by kernel_rfl) (fun _ _ _ h => h) (Or.inl ⟨by rfl, ?_⟩) (Below.refl _ _) ?_
  rotate_left
  · intro W hW
    clear hW
    go_simp
    all_goals with_reducible rfl
  try simp only [Act.put, List.setIfInBounds_toArray, List.set_cons_zero, List.set_cons_succ]
  refine wpAnyH_take (i := 8) (oi := { dst := some 53, op := Go.Op.move (Go.Operand.tmp 13), type := 32, pos := "law.go:63", after := #[], guard := none }) (v := ?_) rfl (by kernel_rfl) (by kernel_rfl) (by kernel_rfl) (fun _ _ _ h => h) (Or.inl ⟨by rfl, ?_⟩) (Below.refl _ _) ?_
  rotate_left
  · intro W hW
    clear hW
    go_simp
    all_goals with_reducible rfl
  try simp only [Act.put, List.setIfInBounds_toArray, List.set_cons_zero, List.set_cons_succ]
  refine wpAnyH_take (i := 10) (oi := { dst := some 55, op := Go.Op.move (Go.Operand.tmp 12), type := 3, pos := "law.go:63", after := #[], guard := none }) (v := ?_) rfl (by kernel_rfl) (by kernel_rfl) (by kernel_rfl) (fun _ _ _ h => h) (Or.inl ⟨by rfl, ?_⟩) (Below.refl _ _) ?_
  rotate_left
  · intro W hW
    clear hW
    go_simp
    all_goals with_reducible rfl
  try simp only [Act.put, List.setIfInBounds_toArray, List.set_cons_zero, List.set_cons_succ]
  refine wpAnyH_take (i := 11) (oi := { dst := some 56, op := Go.Op.indexAddr 31 (Go.Operand.tmp 6) (Go.Operand.tmp 55), type := 0, pos := "law.go:63", after := #[{ on := 10, ground := Go.Ground.data }], guard := none }) (v := ?_) rfl (by kernel_rfl) (by kernel_rfl) (by kernel_rfl) (fun _ _ _ h => h) (Or.inl ⟨by rfl, ?_⟩) (Below.refl _ _) ?_
  rotate_left
  · intro W hW
    clear hW
    go_simp
    all_goals with_reducible rfl
  try simp only [Act.put, List.setIfInBounds_toArray, List.set_cons_zero, List.set_cons_succ]
  refine wpAnyH_take (i := 12) (oi := { dst := some 57, op := Go.Op.load 5 (Go.Operand.tmp 56), type := 5, pos := "law.go:63", after := #[{ on := 11, ground := Go.Ground.data }], guard := none }) (v := ?_) rfl (by kernel_rfl) (by kernel_rfl) (by kernel_rfl) (fun _ _ _ h => h) (Or.inl ⟨by rfl, ?_⟩) (Below.refl _ _) ?_
  rotate_left
  · intro W hW
    have hld := (Below.cell hW hB0).trans cB0
    clear hW
    go_simp
    all_goals with_reducible rfl
  try simp only [Act.put, List.setIfInBounds_toArray, List.set_cons_zero, List.set_cons_succ]
  refine wpAnyH_take (i := 13) (oi := { dst := some 58, op := Go.Op.binOp Go.BinOp.rem 5 (Go.Operand.tmp 57) (Go.Operand.const (Go.Value.int Go.IntKind.u8 3)) 5, type := 5, pos := "law.go:63", after := #[{ on := 12, ground := Go.Ground.data }], guard := none }) (v := ?_) rfl (by kernel_rfl) (by kernel_rfl) (by kernel_rfl) (fun _ _ _ h => h) (Or.inl ⟨by rfl, ?_⟩) (Below.refl _ _) ?_
  rotate_left
  · intro W hW
    clear hW
    go_simp
    all_goals with_reducible rfl
  try simp only [Act.put, List.setIfInBounds_toArray, List.set_cons_zero, List.set_cons_succ]
  refine wpAnyH_ready (rs := [1, 9]) (by kernel_rfl) (by simp) ?_
  refine AllReadyH.cons (o := { dst := some 46, op := Go.Op.buildSlice 33 3 #[(0, Go.Operand.const (Go.Value.string { data := #[] })), (1, Go.Operand.const (Go.Value.string { data := #[48] })), (2, Go.Operand.const (Go.Value.string { data := #[48, 120] }))], type := 33, pos := "law.go:63", after := #[], guard := none }) rfl (fun K hK => ?_) ?_
  · go_simp
    refine hK.out _ _ ((Below.refl _ _).alloc (Nat.le_refl _) _) (fun _ => ?_)
    clear hK K
    try simp only [Act.put, List.setIfInBounds_toArray, List.set_cons_zero, List.set_cons_succ]
    refine wpAnyH_move ((Below.refl _ _).alloc (Nat.le_refl _) _) ?_
    obtain ⟨W1, hW⟩ : ∃ W', W' = W0.alloc (.cells #[Go.Value.string { data := #[] }, Go.Value.string { data := #[48] }, Go.Value.string { data := #[48, 120] }] 9) := ⟨_, rfl⟩
    rw [← hW]
    have cS1 : W1.cell? ⟨W0.heap.size, 1, none⟩ = some (.string (pfxB 1)) := by rw [hW, World.cell?_alloc_new]; rfl
    have hS1 : W0.heap.size < W1.heap.size := by rw [hW]; simp
    have hk : Below W0.heap.size W0 W1 := by rw [hW]; exact (Below.refl _ _).alloc (Nat.le_refl _) _
    clear hW
    have HW1 := Aside0.mk (below_then HW0.out HW0.out.size hk)
    have cB1 := (hk.cell hB0).trans cB0
    have hB1 := Nat.lt_of_lt_of_le hB0 hk.size
    clear hk
    clear cB0
    refine wpAnyH_take (i := 6) (oi := { dst := some 51, op := Go.Op.indexAddr 33 (Go.Operand.tmp 46) (Go.Operand.tmp 50), type := 0, pos := "law.go:63", after := #[{ on := 1, ground := Go.Ground.data }, { on := 5, ground := Go.Ground.data }], guard := none }) (v := ?_) rfl (by kernel_rfl) (by kernel_rfl) (by kernel_rfl) (fun _ _ _ h => h) (Or.inl ⟨by rfl, ?_⟩) (Below.refl _ _) ?_
    rotate_left
    · intro W hW
      clear hW
      go_simp
      all_goals with_reducible rfl
    try simp only [Act.put, List.setIfInBounds_toArray, List.set_cons_zero, List.set_cons_succ]
    refine wpAnyH_take (i := 7) (oi := { dst := some 52, op := Go.Op.load 9 (Go.Operand.tmp 51), type := 9, pos := "law.go:63", after := #[{ on := 6, ground := Go.Ground.data }], guard := none }) (v := ?_) rfl (by kernel_rfl) (by kernel_rfl) (by kernel_rfl) (fun _ _ _ h => h) (Or.inl ⟨by rfl, ?_⟩) (Below.refl _ _) ?_
    rotate_left
    · intro W hW
      have hld := (Below.cell hW hS1).trans cS1
      clear hW
      go_simp
      all_goals with_reducible rfl
    try simp only [Act.put, List.setIfInBounds_toArray, List.set_cons_zero, List.set_cons_succ]
    refine wpAnyH_ready (rs := [9]) (by kernel_rfl) (by simp) ?_
    refine AllReadyH.cons (o := { dst := some 54, op := Go.Op.buildSlice 35 3 #[(0, Go.Operand.const (Go.Value.int Go.IntKind.i64 10)), (1, Go.Operand.const (Go.Value.int Go.IntKind.i64 8)), (2, Go.Operand.const (Go.Value.int Go.IntKind.i64 16))], type := 35, pos := "law.go:63", after := #[], guard := none }) rfl (fun K hK => ?_) ?_
    · go_simp
      refine hK.out _ _ ((Below.refl _ _).alloc (Nat.le_refl _) _) (fun _ => ?_)
      clear hK K
      try simp only [Act.put, List.setIfInBounds_toArray, List.set_cons_zero, List.set_cons_succ]
      refine wpAnyH_move ((Below.refl _ _).alloc (Nat.le_refl _) _) ?_
      obtain ⟨W2, hW⟩ : ∃ W', W' = W1.alloc (.cells #[Go.Value.int Go.IntKind.i64 10, Go.Value.int Go.IntKind.i64 8, Go.Value.int Go.IntKind.i64 16] 3) := ⟨_, rfl⟩
      rw [← hW]
      have cI2 : W2.cell? ⟨W1.heap.size, 1, none⟩ = some (.int .i64 8) := by rw [hW, World.cell?_alloc_new]; rfl
      have hI2 : W1.heap.size < W2.heap.size := by rw [hW]; simp
      have hk : Below W1.heap.size W1 W2 := by rw [hW]; exact (Below.refl _ _).alloc (Nat.le_refl _) _
      clear hW
      have HW2 := Aside0.mk (below_then HW1.out HW1.out.size hk)
      have cB2 := (hk.cell hB1).trans cB1
      have hB2 := Nat.lt_of_lt_of_le hB1 hk.size
      have cS2 := (hk.cell hS1).trans cS1
      have hS2 := Nat.lt_of_lt_of_le hS1 hk.size
      clear hk
      clear cB1 cS1
      refine wpAnyH_take (i := 14) (oi := { dst := some 59, op := Go.Op.indexAddr 35 (Go.Operand.tmp 54) (Go.Operand.tmp 58), type := 0, pos := "law.go:63", after := #[{ on := 9, ground := Go.Ground.data }, { on := 13, ground := Go.Ground.data }], guard := none }) (v := ?_) rfl (by kernel_rfl) (by kernel_rfl) (by kernel_rfl) (fun _ _ _ h => h) (Or.inl ⟨by rfl, ?_⟩) (Below.refl _ _) ?_
      rotate_left
      · intro W hW
        clear hW
        go_simp
        all_goals with_reducible rfl
      try simp only [Act.put, List.setIfInBounds_toArray, List.set_cons_zero, List.set_cons_succ]
      refine wpAnyH_take (i := 15) (oi := { dst := some 60, op := Go.Op.load 3 (Go.Operand.tmp 59), type := 3, pos := "law.go:63", after := #[{ on := 14, ground := Go.Ground.data }], guard := none }) (v := ?_) rfl (by kernel_rfl) (by kernel_rfl) (by kernel_rfl) (fun _ _ _ h => h) (Or.inl ⟨by rfl, ?_⟩) (Below.refl _ _) ?_
      rotate_left
      · intro W hW
        have hld := (Below.cell hW hI2).trans cI2
        clear hW
        go_simp
        all_goals with_reducible rfl
      try simp only [Act.put, List.setIfInBounds_toArray, List.set_cons_zero, List.set_cons_succ]
      refine wpAnyH_ready (rs := [16]) (by kernel_rfl) (by simp) ?_
      refine AllReadyH.cons (o := { dst := some 61, op := Go.Op.call { callee := Go.Callee.value (Go.Operand.func 16), args := #[Go.Operand.tmp 53, Go.Operand.tmp 60], argTypes := #[32, 3] }, type := 9, pos := "law.go:63", after := #[{ on := 8, ground := Go.Ground.data }, { on := 15, ground := Go.Ground.data }], guard := none }) rfl (fun K hK => ?_) ?_
      · go_simp
        refine (FormatUint_calls 8 (by omega) x hx W2 (hP.out.stays HW2.out) (hT.out.stays HW2.out)).mono ?_
        rintro e W3 ⟨rfl, hk⟩
        rw [← HY.out]
        refine hK.out _ _ hk (fun _ => ?_)
        clear hK K
        try simp only [Act.put, List.setIfInBounds_toArray, List.set_cons_zero, List.set_cons_succ]
        refine wpAnyH_move hk ?_
        have HW3 := Aside0.mk (below_then HW2.out HW2.out.size hk)
        have cB3 := (hk.cell hB2).trans cB2
        have hB3 := Nat.lt_of_lt_of_le hB2 hk.size
        have cI3 := (hk.cell hI2).trans cI2
        have hI3 := Nat.lt_of_lt_of_le hI2 hk.size
        have cS3 := (hk.cell hS2).trans cS2
        have hS3 := Nat.lt_of_lt_of_le hS2 hk.size
        clear hk
        clear cB2 cI2 cS2
        refine wpAnyH_ready (rs := [17]) (by kernel_rfl) (by simp) ?_
        refine AllReadyH.cons (o := { dst := some 62, op := Go.Op.binOp Go.BinOp.add 9 (Go.Operand.tmp 52) (Go.Operand.tmp 61) 9, type := 9, pos := "law.go:63", after := #[{ on := 7, ground := Go.Ground.data }, { on := 16, ground := Go.Ground.data }], guard := none }) rfl (fun K hK => ?_) ?_
        · go_simp
          go_wp2_with fail
          refine hK.out _ _ (Below.refl _ _) (fun _ => ?_)
          clear hK K
          try simp only [Act.put, List.setIfInBounds_toArray, List.set_cons_zero, List.set_cons_succ]
          refine wpAnyH_ready (rs := [18]) (by kernel_rfl) (by simp) ?_
          refine AllReadyH.cons (o := { dst := some 63, op := Go.Op.binOp Go.BinOp.add 9 (Go.Operand.tmp 62) (Go.Operand.const (Go.Value.string { data := #[46] })) 9, type := 9, pos := "law.go:63", after := #[{ on := 17, ground := Go.Ground.data }], guard := none }) rfl (fun K hK => ?_) ?_
          · go_simp
            go_wp2_with fail
            refine hK.out _ _ (Below.refl _ _) (fun _ => ?_)
            clear hK K
            try simp only [Act.put, List.setIfInBounds_toArray, List.set_cons_zero, List.set_cons_succ]
            refine wpAnyH_ready (rs := [19]) (by kernel_rfl) (by simp) ?_
            refine AllReadyH.cons (o := { dst := some 64, op := Go.Op.binOp Go.BinOp.add 9 (Go.Operand.tmp 45) (Go.Operand.tmp 63) 9, type := 9, pos := "law.go:63", after := #[{ on := 0, ground := Go.Ground.data }, { on := 18, ground := Go.Ground.data }], guard := none }) rfl (fun K hK => ?_) ?_
            · go_simp
              go_wp2_with fail
              refine hK.out _ _ (Below.refl _ _) (fun _ => ?_)
              clear hK K
              try simp only [Act.put, List.setIfInBounds_toArray, List.set_cons_zero, List.set_cons_succ]
              refine wpAnyH_ready (rs := [20]) (by kernel_rfl) (by simp) ?_
              refine AllReadyH.cons (o := { dst := some 10, op := Go.Op.assign (Go.Operand.tmp 64), type := 9, pos := "law.go:63", after := #[{ on := 19, ground := Go.Ground.data }, { on := 16, ground := Go.Ground.chain }, { on := 0, ground := Go.Ground.phase }, { on := 1, ground := Go.Ground.phase }, { on := 2, ground := Go.Ground.phase }, { on := 3, ground := Go.Ground.phase }, { on := 4, ground := Go.Ground.phase }, { on := 5, ground := Go.Ground.phase }, { on := 6, ground := Go.Ground.phase }, { on := 7, ground := Go.Ground.phase }, { on := 8, ground := Go.Ground.phase }, { on := 9, ground := Go.Ground.phase }, { on := 10, ground := Go.Ground.phase }, { on := 11, ground := Go.Ground.phase }, { on := 12, ground := Go.Ground.phase }, { on := 13, ground := Go.Ground.phase }, { on := 14, ground := Go.Ground.phase }, { on := 15, ground := Go.Ground.phase }, { on := 16, ground := Go.Ground.phase }, { on := 17, ground := Go.Ground.phase }, { on := 18, ground := Go.Ground.phase }, { on := 19, ground := Go.Ground.phase }], guard := none }) rfl (fun K hK => ?_) ?_
              · go_simp
                refine hK.out _ _ (Below.refl _ _) (fun _ => ?_)
                clear hK K
                try simp only [Act.put, List.setIfInBounds_toArray, List.set_cons_zero, List.set_cons_succ]
                refine wpAnyH_done (by kernel_rfl) ?_ _
                exact HQ.out _ _ _ _ _ _ _ _ _ _ _ _ _ _ _ _ _ _ _ _ W3 HW3.out
              exact AllReadyH.nil
            exact AllReadyH.nil
          exact AllReadyH.nil
        exact AllReadyH.nil
      exact AllReadyH.nil
    exact AllReadyH.nil
  refine AllReadyH.cons (o := { dst := some 54, op := Go.Op.buildSlice 35 3 #[(0, Go.Operand.const (Go.Value.int Go.IntKind.i64 10)), (1, Go.Operand.const (Go.Value.int Go.IntKind.i64 8)), (2, Go.Operand.const (Go.Value.int Go.IntKind.i64 16))], type := 35, pos := "law.go:63", after := #[], guard := none }) rfl (fun K hK => ?_) ?_
  · go_simp
    refine hK.out _ _ ((Below.refl _ _).alloc (Nat.le_refl _) _) (fun _ => ?_)
    clear hK K
    try simp only [Act.put, List.setIfInBounds_toArray, List.set_cons_zero, List.set_cons_succ]
    refine wpAnyH_move ((Below.refl _ _).alloc (Nat.le_refl _) _) ?_
    obtain ⟨W1, hW⟩ : ∃ W', W' = W0.alloc (.cells #[Go.Value.int Go.IntKind.i64 10, Go.Value.int Go.IntKind.i64 8, Go.Value.int Go.IntKind.i64 16] 3) := ⟨_, rfl⟩
    rw [← hW]
    have cI1 : W1.cell? ⟨W0.heap.size, 1, none⟩ = some (.int .i64 8) := by rw [hW, World.cell?_alloc_new]; rfl
    have hI1 : W0.heap.size < W1.heap.size := by rw [hW]; simp
    have hk : Below W0.heap.size W0 W1 := by rw [hW]; exact (Below.refl _ _).alloc (Nat.le_refl _) _
    clear hW
    have HW1 := Aside0.mk (below_then HW0.out HW0.out.size hk)
    have cB1 := (hk.cell hB0).trans cB0
    have hB1 := Nat.lt_of_lt_of_le hB0 hk.size
    clear hk
    clear cB0
    refine wpAnyH_take (i := 14) (oi := { dst := some 59, op := Go.Op.indexAddr 35 (Go.Operand.tmp 54) (Go.Operand.tmp 58), type := 0, pos := "law.go:63", after := #[{ on := 9, ground := Go.Ground.data }, { on := 13, ground := Go.Ground.data }], guard := none }) (v := ?_) rfl (by kernel_rfl) (by kernel_rfl) (by kernel_rfl) (fun _ _ _ h => h) (Or.inl ⟨by rfl, ?_⟩) (Below.refl _ _) ?_
    rotate_left
    · intro W hW
      clear hW
      go_simp
      all_goals with_reducible rfl
    try simp only [Act.put, List.setIfInBounds_toArray, List.set_cons_zero, List.set_cons_succ]
    refine wpAnyH_take (i := 15) (oi := { dst := some 60, op := Go.Op.load 3 (Go.Operand.tmp 59), type := 3, pos := "law.go:63", after := #[{ on := 14, ground := Go.Ground.data }], guard := none }) (v := ?_) rfl (by kernel_rfl) (by kernel_rfl) (by kernel_rfl) (fun _ _ _ h => h) (Or.inl ⟨by rfl, ?_⟩) (Below.refl _ _) ?_
    rotate_left
    · intro W hW
      have hld := (Below.cell hW hI1).trans cI1
      clear hW
      go_simp
      all_goals with_reducible rfl
    try simp only [Act.put, List.setIfInBounds_toArray, List.set_cons_zero, List.set_cons_succ]
    refine wpAnyH_ready (rs := [1, 16]) (by kernel_rfl) (by simp) ?_
    refine AllReadyH.cons (o := { dst := some 46, op := Go.Op.buildSlice 33 3 #[(0, Go.Operand.const (Go.Value.string { data := #[] })), (1, Go.Operand.const (Go.Value.string { data := #[48] })), (2, Go.Operand.const (Go.Value.string { data := #[48, 120] }))], type := 33, pos := "law.go:63", after := #[], guard := none }) rfl (fun K hK => ?_) ?_
    · go_simp
      refine hK.out _ _ ((Below.refl _ _).alloc (Nat.le_refl _) _) (fun _ => ?_)
      clear hK K
      try simp only [Act.put, List.setIfInBounds_toArray, List.set_cons_zero, List.set_cons_succ]
      refine wpAnyH_move ((Below.refl _ _).alloc (Nat.le_refl _) _) ?_
      obtain ⟨W2, hW⟩ : ∃ W', W' = W1.alloc (.cells #[Go.Value.string { data := #[] }, Go.Value.string { data := #[48] }, Go.Value.string { data := #[48, 120] }] 9) := ⟨_, rfl⟩
      rw [← hW]
      have cS2 : W2.cell? ⟨W1.heap.size, 1, none⟩ = some (.string (pfxB 1)) := by rw [hW, World.cell?_alloc_new]; rfl
      have hS2 : W1.heap.size < W2.heap.size := by rw [hW]; simp
      have hk : Below W1.heap.size W1 W2 := by rw [hW]; exact (Below.refl _ _).alloc (Nat.le_refl _) _
      clear hW
      have HW2 := Aside0.mk (below_then HW1.out HW1.out.size hk)
      have cB2 := (hk.cell hB1).trans cB1
      have hB2 := Nat.lt_of_lt_of_le hB1 hk.size
      have cI2 := (hk.cell hI1).trans cI1
      have hI2 := Nat.lt_of_lt_of_le hI1 hk.size
      clear hk
      clear cB1 cI1
      refine wpAnyH_take (i := 6) (oi := { dst := some 51, op := Go.Op.indexAddr 33 (Go.Operand.tmp 46) (Go.Operand.tmp 50), type := 0, pos := "law.go:63", after := #[{ on := 1, ground := Go.Ground.data }, { on := 5, ground := Go.Ground.data }], guard := none }) (v := ?_) rfl (by kernel_rfl) (by kernel_rfl) (by kernel_rfl) (fun _ _ _ h => h) (Or.inl ⟨by rfl, ?_⟩) (Below.refl _ _) ?_
      rotate_left
      · intro W hW
        clear hW
        go_simp
        all_goals with_reducible rfl
      try simp only [Act.put, List.setIfInBounds_toArray, List.set_cons_zero, List.set_cons_succ]
      refine wpAnyH_take (i := 7) (oi := { dst := some 52, op := Go.Op.load 9 (Go.Operand.tmp 51), type := 9, pos := "law.go:63", after := #[{ on := 6, ground := Go.Ground.data }], guard := none }) (v := ?_) rfl (by kernel_rfl) (by kernel_rfl) (by kernel_rfl) (fun _ _ _ h => h) (Or.inl ⟨by rfl, ?_⟩) (Below.refl _ _) ?_
      rotate_left
      · intro W hW
        have hld := (Below.cell hW hS2).trans cS2
        clear hW
        go_simp
        all_goals with_reducible rfl
      try simp only [Act.put, List.setIfInBounds_toArray, List.set_cons_zero, List.set_cons_succ]
      refine wpAnyH_ready (rs := [16]) (by kernel_rfl) (by simp) ?_
      refine AllReadyH.cons (o := { dst := some 61, op := Go.Op.call { callee := Go.Callee.value (Go.Operand.func 16), args := #[Go.Operand.tmp 53, Go.Operand.tmp 60], argTypes := #[32, 3] }, type := 9, pos := "law.go:63", after := #[{ on := 8, ground := Go.Ground.data }, { on := 15, ground := Go.Ground.data }], guard := none }) rfl (fun K hK => ?_) ?_
      · go_simp
        refine (FormatUint_calls 8 (by omega) x hx W2 (hP.out.stays HW2.out) (hT.out.stays HW2.out)).mono ?_
        rintro e W3 ⟨rfl, hk⟩
        rw [← HY.out]
        refine hK.out _ _ hk (fun _ => ?_)
        clear hK K
        try simp only [Act.put, List.setIfInBounds_toArray, List.set_cons_zero, List.set_cons_succ]
        refine wpAnyH_move hk ?_
        have HW3 := Aside0.mk (below_then HW2.out HW2.out.size hk)
        have cB3 := (hk.cell hB2).trans cB2
        have hB3 := Nat.lt_of_lt_of_le hB2 hk.size
        have cI3 := (hk.cell hI2).trans cI2
        have hI3 := Nat.lt_of_lt_of_le hI2 hk.size
        have cS3 := (hk.cell hS2).trans cS2
        have hS3 := Nat.lt_of_lt_of_le hS2 hk.size
        clear hk
        clear cB2 cI2 cS2
        refine wpAnyH_ready (rs := [17]) (by kernel_rfl) (by simp) ?_
        refine AllReadyH.cons (o := { dst := some 62, op := Go.Op.binOp Go.BinOp.add 9 (Go.Operand.tmp 52) (Go.Operand.tmp 61) 9, type := 9, pos := "law.go:63", after := #[{ on := 7, ground := Go.Ground.data }, { on := 16, ground := Go.Ground.data }], guard := none }) rfl (fun K hK => ?_) ?_
        · go_simp
          go_wp2_with fail
          refine hK.out _ _ (Below.refl _ _) (fun _ => ?_)
          clear hK K
          try simp only [Act.put, List.setIfInBounds_toArray, List.set_cons_zero, List.set_cons_succ]
          refine wpAnyH_ready (rs := [18]) (by kernel_rfl) (by simp) ?_
          refine AllReadyH.cons (o := { dst := some 63, op := Go.Op.binOp Go.BinOp.add 9 (Go.Operand.tmp 62) (Go.Operand.const (Go.Value.string { data := #[46] })) 9, type := 9, pos := "law.go:63", after := #[{ on := 17, ground := Go.Ground.data }], guard := none }) rfl (fun K hK => ?_) ?_
          · go_simp
            go_wp2_with fail
            refine hK.out _ _ (Below.refl _ _) (fun _ => ?_)
            clear hK K
            try simp only [Act.put, List.setIfInBounds_toArray, List.set_cons_zero, List.set_cons_succ]
            refine wpAnyH_ready (rs := [19]) (by kernel_rfl) (by simp) ?_
            refine AllReadyH.cons (o := { dst := some 64, op := Go.Op.binOp Go.BinOp.add 9 (Go.Operand.tmp 45) (Go.Operand.tmp 63) 9, type := 9, pos := "law.go:63", after := #[{ on := 0, ground := Go.Ground.data }, { on := 18, ground := Go.Ground.data }], guard := none }) rfl (fun K hK => ?_) ?_
            · go_simp
              go_wp2_with fail
              refine hK.out _ _ (Below.refl _ _) (fun _ => ?_)
              clear hK K
              try simp only [Act.put, List.setIfInBounds_toArray, List.set_cons_zero, List.set_cons_succ]
              refine wpAnyH_ready (rs := [20]) (by kernel_rfl) (by simp) ?_
              refine AllReadyH.cons (o := { dst := some 10, op := Go.Op.assign (Go.Operand.tmp 64), type := 9, pos := "law.go:63", after := #[{ on := 19, ground := Go.Ground.data }, { on := 16, ground := Go.Ground.chain }, { on := 0, ground := Go.Ground.phase }, { on := 1, ground := Go.Ground.phase }, { on := 2, ground := Go.Ground.phase }, { on := 3, ground := Go.Ground.phase }, { on := 4, ground := Go.Ground.phase }, { on := 5, ground := Go.Ground.phase }, { on := 6, ground := Go.Ground.phase }, { on := 7, ground := Go.Ground.phase }, { on := 8, ground := Go.Ground.phase }, { on := 9, ground := Go.Ground.phase }, { on := 10, ground := Go.Ground.phase }, { on := 11, ground := Go.Ground.phase }, { on := 12, ground := Go.Ground.phase }, { on := 13, ground := Go.Ground.phase }, { on := 14, ground := Go.Ground.phase }, { on := 15, ground := Go.Ground.phase }, { on := 16, ground := Go.Ground.phase }, { on := 17, ground := Go.Ground.phase }, { on := 18, ground := Go.Ground.phase }, { on := 19, ground := Go.Ground.phase }], guard := none }) rfl (fun K hK => ?_) ?_
              · go_simp
                refine hK.out _ _ (Below.refl _ _) (fun _ => ?_)
                clear hK K
                try simp only [Act.put, List.setIfInBounds_toArray, List.set_cons_zero, List.set_cons_succ]
                refine wpAnyH_done (by kernel_rfl) ?_ _
                exact HQ.out _ _ _ _ _ _ _ _ _ _ _ _ _ _ _ _ _ _ _ _ W3 HW3.out
              exact AllReadyH.nil
            exact AllReadyH.nil
          exact AllReadyH.nil
        exact AllReadyH.nil
      exact AllReadyH.nil
    refine AllReadyH.cons (o := { dst := some 61, op := Go.Op.call { callee := Go.Callee.value (Go.Operand.func 16), args := #[Go.Operand.tmp 53, Go.Operand.tmp 60], argTypes := #[32, 3] }, type := 9, pos := "law.go:63", after := #[{ on := 8, ground := Go.Ground.data }, { on := 15, ground := Go.Ground.data }], guard := none }) rfl (fun K hK => ?_) ?_
    · go_simp
      refine (FormatUint_calls 8 (by omega) x hx W1 (hP.out.stays HW1.out) (hT.out.stays HW1.out)).mono ?_
      rintro e W2 ⟨rfl, hk⟩
      rw [← HY.out]
      refine hK.out _ _ hk (fun _ => ?_)
      clear hK K
      try simp only [Act.put, List.setIfInBounds_toArray, List.set_cons_zero, List.set_cons_succ]
      refine wpAnyH_move hk ?_
      have HW2 := Aside0.mk (below_then HW1.out HW1.out.size hk)
      have cB2 := (hk.cell hB1).trans cB1
      have hB2 := Nat.lt_of_lt_of_le hB1 hk.size
      have cI2 := (hk.cell hI1).trans cI1
      have hI2 := Nat.lt_of_lt_of_le hI1 hk.size
      clear hk
      clear cB1 cI1
      refine wpAnyH_ready (rs := [1]) (by kernel_rfl) (by simp) ?_
      refine AllReadyH.cons (o := { dst := some 46, op := Go.Op.buildSlice 33 3 #[(0, Go.Operand.const (Go.Value.string { data := #[] })), (1, Go.Operand.const (Go.Value.string { data := #[48] })), (2, Go.Operand.const (Go.Value.string { data := #[48, 120] }))], type := 33, pos := "law.go:63", after := #[], guard := none }) rfl (fun K hK => ?_) ?_
      · go_simp
        refine hK.out _ _ ((Below.refl _ _).alloc (Nat.le_refl _) _) (fun _ => ?_)
        clear hK K
        try simp only [Act.put, List.setIfInBounds_toArray, List.set_cons_zero, List.set_cons_succ]
        refine wpAnyH_move ((Below.refl _ _).alloc (Nat.le_refl _) _) ?_
        obtain ⟨W3, hW⟩ : ∃ W', W' = W2.alloc (.cells #[Go.Value.string { data := #[] }, Go.Value.string { data := #[48] }, Go.Value.string { data := #[48, 120] }] 9) := ⟨_, rfl⟩
        rw [← hW]
        have cS3 : W3.cell? ⟨W2.heap.size, 1, none⟩ = some (.string (pfxB 1)) := by rw [hW, World.cell?_alloc_new]; rfl
        have hS3 : W2.heap.size < W3.heap.size := by rw [hW]; simp
        have hk : Below W2.heap.size W2 W3 := by rw [hW]; exact (Below.refl _ _).alloc (Nat.le_refl _) _
        clear hW
        have HW3 := Aside0.mk (below_then HW2.out HW2.out.size hk)
        have cB3 := (hk.cell hB2).trans cB2
        have hB3 := Nat.lt_of_lt_of_le hB2 hk.size
        have cI3 := (hk.cell hI2).trans cI2
        have hI3 := Nat.lt_of_lt_of_le hI2 hk.size
        clear hk
        clear cB2 cI2
        refine wpAnyH_take (i := 6) (oi := { dst := some 51, op := Go.Op.indexAddr 33 (Go.Operand.tmp 46) (Go.Operand.tmp 50), type := 0, pos := "law.go:63", after := #[{ on := 1, ground := Go.Ground.data }, { on := 5, ground := Go.Ground.data }], guard := none }) (v := ?_) rfl (by kernel_rfl) (by kernel_rfl) (by kernel_rfl) (fun _ _ _ h => h) (Or.inl ⟨by rfl, ?_⟩) (Below.refl _ _) ?_
        rotate_left
        · intro W hW
          clear hW
          go_simp
          all_goals with_reducible rfl
        try simp only [Act.put, List.setIfInBounds_toArray, List.set_cons_zero, List.set_cons_succ]
        refine wpAnyH_take (i := 7) (oi := { dst := some 52, op := Go.Op.load 9 (Go.Operand.tmp 51), type := 9, pos := "law.go:63", after := #[{ on := 6, ground := Go.Ground.data }], guard := none }) (v := ?_) rfl (by kernel_rfl) (by kernel_rfl) (by kernel_rfl) (fun _ _ _ h => h) (Or.inl ⟨by rfl, ?_⟩) (Below.refl _ _) ?_
        rotate_left
        · intro W hW
          have hld := (Below.cell hW hS3).trans cS3
          clear hW
          go_simp
          all_goals with_reducible rfl
        try simp only [Act.put, List.setIfInBounds_toArray, List.set_cons_zero, List.set_cons_succ]
        refine wpAnyH_ready (rs := [17]) (by kernel_rfl) (by simp) ?_
        refine AllReadyH.cons (o := { dst := some 62, op := Go.Op.binOp Go.BinOp.add 9 (Go.Operand.tmp 52) (Go.Operand.tmp 61) 9, type := 9, pos := "law.go:63", after := #[{ on := 7, ground := Go.Ground.data }, { on := 16, ground := Go.Ground.data }], guard := none }) rfl (fun K hK => ?_) ?_
        · go_simp
          go_wp2_with fail
          refine hK.out _ _ (Below.refl _ _) (fun _ => ?_)
          clear hK K
          try simp only [Act.put, List.setIfInBounds_toArray, List.set_cons_zero, List.set_cons_succ]
          refine wpAnyH_ready (rs := [18]) (by kernel_rfl) (by simp) ?_
          refine AllReadyH.cons (o := { dst := some 63, op := Go.Op.binOp Go.BinOp.add 9 (Go.Operand.tmp 62) (Go.Operand.const (Go.Value.string { data := #[46] })) 9, type := 9, pos := "law.go:63", after := #[{ on := 17, ground := Go.Ground.data }], guard := none }) rfl (fun K hK => ?_) ?_
          · go_simp
            go_wp2_with fail
            refine hK.out _ _ (Below.refl _ _) (fun _ => ?_)
            clear hK K
            try simp only [Act.put, List.setIfInBounds_toArray, List.set_cons_zero, List.set_cons_succ]
            refine wpAnyH_ready (rs := [19]) (by kernel_rfl) (by simp) ?_
            refine AllReadyH.cons (o := { dst := some 64, op := Go.Op.binOp Go.BinOp.add 9 (Go.Operand.tmp 45) (Go.Operand.tmp 63) 9, type := 9, pos := "law.go:63", after := #[{ on := 0, ground := Go.Ground.data }, { on := 18, ground := Go.Ground.data }], guard := none }) rfl (fun K hK => ?_) ?_
            · go_simp
              go_wp2_with fail
              refine hK.out _ _ (Below.refl _ _) (fun _ => ?_)
              clear hK K
              try simp only [Act.put, List.setIfInBounds_toArray, List.set_cons_zero, List.set_cons_succ]
              refine wpAnyH_ready (rs := [20]) (by kernel_rfl) (by simp) ?_
              refine AllReadyH.cons (o := { dst := some 10, op := Go.Op.assign (Go.Operand.tmp 64), type := 9, pos := "law.go:63", after := #[{ on := 19, ground := Go.Ground.data }, { on := 16, ground := Go.Ground.chain }, { on := 0, ground := Go.Ground.phase }, { on := 1, ground := Go.Ground.phase }, { on := 2, ground := Go.Ground.phase }, { on := 3, ground := Go.Ground.phase }, { on := 4, ground := Go.Ground.phase }, { on := 5, ground := Go.Ground.phase }, { on := 6, ground := Go.Ground.phase }, { on := 7, ground := Go.Ground.phase }, { on := 8, ground := Go.Ground.phase }, { on := 9, ground := Go.Ground.phase }, { on := 10, ground := Go.Ground.phase }, { on := 11, ground := Go.Ground.phase }, { on := 12, ground := Go.Ground.phase }, { on := 13, ground := Go.Ground.phase }, { on := 14, ground := Go.Ground.phase }, { on := 15, ground := Go.Ground.phase }, { on := 16, ground := Go.Ground.phase }, { on := 17, ground := Go.Ground.phase }, { on := 18, ground := Go.Ground.phase }, { on := 19, ground := Go.Ground.phase }], guard := none }) rfl (fun K hK => ?_) ?_
              · go_simp
                refine hK.out _ _ (Below.refl _ _) (fun _ => ?_)
                clear hK K
                try simp only [Act.put, List.setIfInBounds_toArray, List.set_cons_zero, List.set_cons_succ]
                refine wpAnyH_done (by kernel_rfl) ?_ _
                exact HQ.out _ _ _ _ _ _ _ _ _ _ _ _ _ _ _ _ _ _ _ _ W3 HW3.out
              exact AllReadyH.nil
            exact AllReadyH.nil
          exact AllReadyH.nil
        exact AllReadyH.nil
      exact AllReadyH.nil
    exact AllReadyH.nil
  exact AllReadyH.nil
set_option maxHeartbeats 40000000 in
set_option maxRecDepth 100000 in
theorem short_reg12_2 {t0 t1 t2 t3 t4 t5 t7 t8 t9 t11 t14 t15 t16 t17 t18 t19 t20 t21 t22 t23 t24 t25 t26 t27 t28 t29 t30 t31 t32 t33 t34 t35 t36 t37 t38 t39 t40 t41 t42 t43 t44 t45 t46 t47 t48 t49 t50 t51 t52 t53 t54 t55 t56 t57 t58 t59 t60 t61 t62 t63 t64 t65 t66 t67 t68 t69 t70 t71 t72 t73 t74 t75 t76 t77 t78 t79 t80 t81 t82 t83 t84 t85 t86 t87 t88 t89 t90 t91 t92 t93 t94 t95 t96 t97 t98 : Value} (B j x bv : Nat) (z : ByteArray) (Q : Exit → Act → World → Prop) (w : World) (hj : j < 4) (hx : x < 18446744073709551616) (hbm : (bv : Int) % 3 = 2) (hz : z.size ≤ 400)
    (hB : B < w.heap.size) (hc : w.cell? ⟨B, j, none⟩ = some (.int .u8 (bv : Int))) (hP : Aside0 (Pows w)) (hT : Aside0 (Debr w))
    (hQ : ∀ (s45 s46 s47 s48 s49 s50 s51 s52 s53 s54 s55 s56 s57 s58 s59 s60 s61 s62 s63 s64 : Value) (W : World), Below w.heap.size w W → Q .normal { tmps := List.toArray (t0 :: t1 :: t2 :: t3 :: t4 :: t5 :: .pointer (some ⟨B, 0, none⟩) :: t7 :: t8 :: t9 :: .string (z ++ (pfxB 2 ++ ⟨(digB 16 x).toArray⟩ ++ ⟨#[46]⟩)) :: t11 :: .int .i64 (j : Int) :: .int .u64 (x : Int) :: t14 :: t15 :: t16 :: t17 :: t18 :: t19 :: t20 :: t21 :: t22 :: t23 :: t24 :: t25 :: t26 :: t27 :: t28 :: t29 :: t30 :: t31 :: t32 :: t33 :: t34 :: t35 :: t36 :: t37 :: t38 :: t39 :: t40 :: t41 :: t42 :: t43 :: t44 :: s45 :: s46 :: s47 :: s48 :: s49 :: s50 :: s51 :: s52 :: s53 :: s54 :: s55 :: s56 :: s57 :: s58 :: s59 :: s60 :: s61 :: s62 :: s63 :: s64 :: t65 :: t66 :: t67 :: t68 :: t69 :: t70 :: t71 :: t72 :: t73 :: t74 :: t75 :: t76 :: t77 :: t78 :: t79 :: t80 :: t81 :: t82 :: t83 :: t84 :: t85 :: t86 :: t87 :: t88 :: t89 :: t90 :: t91 :: t92 :: t93 :: t94 :: t95 :: t96 :: t97 :: t98 :: []), defers := [] } W) :
    (Code.region 12 #[{ dst := some 45, op := Go.Op.move (Go.Operand.tmp 10), type := 9, pos := "law.go:63", after := #[], guard := none }, { dst := some 46, op := Go.Op.buildSlice 33 3 #[(0, Go.Operand.const (Go.Value.string { data := #[] })), (1, Go.Operand.const (Go.Value.string { data := #[48] })), (2, Go.Operand.const (Go.Value.string { data := #[48, 120] }))], type := 33, pos := "law.go:63", after := #[], guard := none }, { dst := some 47, op := Go.Op.move (Go.Operand.tmp 12), type := 3, pos := "law.go:63", after := #[], guard := none }, { dst := some 48, op := Go.Op.indexAddr 31 (Go.Operand.tmp 6) (Go.Operand.tmp 47), type := 0, pos := "law.go:63", after := #[{ on := 2, ground := Go.Ground.data }], guard := none }, { dst := some 49, op := Go.Op.load 5 (Go.Operand.tmp 48), type := 5, pos := "law.go:63", after := #[{ on := 3, ground := Go.Ground.data }], guard := none }, { dst := some 50, op := Go.Op.binOp Go.BinOp.rem 5 (Go.Operand.tmp 49) (Go.Operand.const (Go.Value.int Go.IntKind.u8 3)) 5, type := 5, pos := "law.go:63", after := #[{ on := 4, ground := Go.Ground.data }], guard := none }, { dst := some 51, op := Go.Op.indexAddr 33 (Go.Operand.tmp 46) (Go.Operand.tmp 50), type := 0, pos := "law.go:63", after := #[{ on := 1, ground := Go.Ground.data }, { on := 5, ground := Go.Ground.data }], guard := none }, { dst := some 52, op := Go.Op.load 9 (Go.Operand.tmp 51), type := 9, pos := "law.go:63", after := #[{ on := 6, ground := Go.Ground.data }], guard := none }, { dst := some 53, op := Go.Op.move (Go.Operand.tmp 13), type := 32, pos := "law.go:63", after := #[], guard := none }, { dst := some 54, op := Go.Op.buildSlice 35 3 #[(0, Go.Operand.const (Go.Value.int Go.IntKind.i64 10)), (1, Go.Operand.const (Go.Value.int Go.IntKind.i64 8)), (2, Go.Operand.const (Go.Value.int Go.IntKind.i64 16))], type := 35, pos := "law.go:63", after := #[], guard := none }, { dst := some 55, op := Go.Op.move (Go.Operand.tmp 12), type := 3, pos := "law.go:63", after := #[], guard := none }, { dst := some 56, op := Go.Op.indexAddr 31 (Go.Operand.tmp 6) (Go.Operand.tmp 55), type := 0, pos := "law.go:63", after := #[{ on := 10, ground := Go.Ground.data }], guard := none }, { dst := some 57, op := Go.Op.load 5 (Go.Operand.tmp 56), type := 5, pos := "law.go:63", after := #[{ on := 11, ground := Go.Ground.data }], guard := none }, { dst := some 58, op := Go.Op.binOp Go.BinOp.rem 5 (Go.Operand.tmp 57) (Go.Operand.const (Go.Value.int Go.IntKind.u8 3)) 5, type := 5, pos := "law.go:63", after := #[{ on := 12, ground := Go.Ground.data }], guard := none }, { dst := some 59, op := Go.Op.indexAddr 35 (Go.Operand.tmp 54) (Go.Operand.tmp 58), type := 0, pos := "law.go:63", after := #[{ on := 9, ground := Go.Ground.data }, { on := 13, ground := Go.Ground.data }], guard := none }, { dst := some 60, op := Go.Op.load 3 (Go.Operand.tmp 59), type := 3, pos := "law.go:63", after := #[{ on := 14, ground := Go.Ground.data }], guard := none }, { dst := some 61, op := Go.Op.call { callee := Go.Callee.value (Go.Operand.func 16), args := #[Go.Operand.tmp 53, Go.Operand.tmp 60], argTypes := #[32, 3] }, type := 9, pos := "law.go:63", after := #[{ on := 8, ground := Go.Ground.data }, { on := 15, ground := Go.Ground.data }], guard := none }, { dst := some 62, op := Go.Op.binOp Go.BinOp.add 9 (Go.Operand.tmp 52) (Go.Operand.tmp 61) 9, type := 9, pos := "law.go:63", after := #[{ on := 7, ground := Go.Ground.data }, { on := 16, ground := Go.Ground.data }], guard := none }, { dst := some 63, op := Go.Op.binOp Go.BinOp.add 9 (Go.Operand.tmp 62) (Go.Operand.const (Go.Value.string { data := #[46] })) 9, type := 9, pos := "law.go:63", after := #[{ on := 17, ground := Go.Ground.data }], guard := none }, { dst := some 64, op := Go.Op.binOp Go.BinOp.add 9 (Go.Operand.tmp 45) (Go.Operand.tmp 63) 9, type := 9, pos := "law.go:63", after := #[{ on := 0, ground := Go.Ground.data }, { on := 18, ground := Go.Ground.data }], guard := none }, { dst := some 10, op := Go.Op.assign (Go.Operand.tmp 64), type := 9, pos := "law.go:63", after := #[{ on := 19, ground := Go.Ground.data }, { on := 16, ground := Go.Ground.chain }, { on := 0, ground := Go.Ground.phase }, { on := 1, ground := Go.Ground.phase }, { on := 2, ground := Go.Ground.phase }, { on := 3, ground := Go.Ground.phase }, { on := 4, ground := Go.Ground.phase }, { on := 5, ground := Go.Ground.phase }, { on := 6, ground := Go.Ground.phase }, { on := 7, ground := Go.Ground.phase }, { on := 8, ground := Go.Ground.phase }, { on := 9, ground := Go.Ground.phase }, { on := 10, ground := Go.Ground.phase }, { on := 11, ground := Go.Ground.phase }, { on := 12, ground := Go.Ground.phase }, { on := 13, ground := Go.Ground.phase }, { on := 14, ground := Go.Ground.phase }, { on := 15, ground := Go.Ground.phase }, { on := 16, ground := Go.Ground.phase }, { on := 17, ground := Go.Ground.phase }, { on := 18, ground := Go.Ground.phase }, { on := 19, ground := Go.Ground.phase }], guard := none }] true).wp Tryd.prog Q { tmps := List.toArray (t0 :: t1 :: t2 :: t3 :: t4 :: t5 :: .pointer (some ⟨B, 0, none⟩) :: t7 :: t8 :: t9 :: .string z :: t11 :: .int .i64 (j : Int) :: .int .u64 (x : Int) :: t14 :: t15 :: t16 :: t17 :: t18 :: t19 :: t20 :: t21 :: t22 :: t23 :: t24 :: t25 :: t26 :: t27 :: t28 :: t29 :: t30 :: t31 :: t32 :: t33 :: t34 :: t35 :: t36 :: t37 :: t38 :: t39 :: t40 :: t41 :: t42 :: t43 :: t44 :: t45 :: t46 :: t47 :: t48 :: t49 :: t50 :: t51 :: t52 :: t53 :: t54 :: t55 :: t56 :: t57 :: t58 :: t59 :: t60 :: t61 :: t62 :: t63 :: t64 :: t65 :: t66 :: t67 :: t68 :: t69 :: t70 :: t71 :: t72 :: t73 :: t74 :: t75 :: t76 :: t77 :: t78 :: t79 :: t80 :: t81 :: t82 :: t83 :: t84 :: t85 :: t86 :: t87 :: t88 :: t89 :: t90 :: t91 :: t92 :: t93 :: t94 :: t95 :: t96 :: t97 :: t98 :: []), defers := [] } w := by
  have hlen := digB_len 16 (by omega) x 64 (by omega)
  obtain ⟨y, hy⟩ : ∃ y : ByteArray, y = ⟨(digB 16 x).toArray⟩ := ⟨_, rfl⟩
  have hys : y.size ≤ 65 := by
    rw [hy, mk_size]
    omega
  have hps : (pfxB 2).size ≤ 2 := by decide
  have hs1 : (pfxB 2 ++ y).size ≤ 70 := sz_cat _ _ 2 65 70 hps hys (by omega)
  have hs2 : (pfxB 2 ++ y ++ ⟨#[46]⟩).size ≤ 80 := sz_cat _ _ 70 1 80 hs1 (by decide) (by omega)
  have HY := Lib.hid hy
  have HQ := Aside0.mk hQ
  clear hQ
  rw [← hy] at HQ
  clear hy hlen
  have hbt : (bv : Int).tmod 3 = 2 := by rw [Int.tmod_eq_emod_of_nonneg (by omega)]; exact hbm
  have hj0 : (0 : Int) ≤ (j : Int) := by omega
  have hj1 : (j : Int) < 4 := by omega
  refine wp_region_noPanic ?_
  refine wp_region_held_drew (S := fun W => Below w.drew.heap.size w.drew W) (by kernel_rfl) (Below.refl _ _) (fun _ => ?_)
  have HW0 : Aside0 (Below w.heap.size w w.drew) := ⟨⟨rfl, rfl, rfl, Nat.le_refl _, fun _ _ => rfl⟩⟩
  have cB0 : w.drew.cell? ⟨B, j, none⟩ = some (.int .u8 (bv : Int)) := hc
  have hB0 : B < w.drew.heap.size := hB
  generalize w.drew = W0 at *
  refine wpAnyH_take (i := 0) (oi := { dst := some 45, op := Go.Op.move (Go.Operand.tmp 10), type := 9, pos := "law.go:63", after := #[], guard := none }) (v := ?_) rfl (by kernel_rfl) (by kernel_rfl) (by kernel_rfl) (fun _ _ _ h => h) (Or.inl ⟨by rfl, ?_⟩) (Below.refl _ _) ?_
  rotate_left
  · intro W hW
    clear hW
    go_simp
    all_goals with_reducible rfl
  try simp only [Act.put, List.setIfInBounds_toArray, List.set_cons_zero, List.set_cons_succ]
  refine wpAnyH_take (i := 2) (oi := { dst := some 47, op := Go.Op.move (Go.Operand.tmp 12), type := 3, pos := "law.go:63", after := #[], guard := none }) (v := ?_) rfl (by kernel_rfl) (by kernel_rfl) (by kernel_rfl) (fun _ _ _ h => h) (Or.inl ⟨by rfl, ?_⟩) (Below.refl _ _) ?_
  rotate_left
  · intro W hW
    clear hW
    go_simp
    all_goals with_reducible rfl
  try simp only [Act.put, List.setIfInBounds_toArray, List.set_cons_zero, List.set_cons_succ]
  refine wpAnyH_take (i := 3) (oi := { dst := some 48, op := Go.Op.indexAddr 31 (Go.Operand.tmp 6) (Go.Operand.tmp 47), type := 0, pos := "law.go:63", after := #[{ on := 2, ground := Go.Ground.data }], guard := none }) (v := ?_) rfl (by kernel_rfl) (by kernel_rfl) (by kernel_rfl) (fun _ _ _ h => h) (Or.inl ⟨by rfl, ?_⟩) (Below.refl _ _) ?_
  rotate_left
  · intro W hW
    clear hW
    go_simp
    all_goals with_reducible rfl
  try simp only [Act.put, List.setIfInBounds_toArray, List.set_cons_zero, List.set_cons_succ]
  refine wpAnyH_take (i := 4) (oi := { dst := some 49, op := Go.Op.load 5 (Go.Operand.tmp 48), type := 5, pos := "law.go:63", after := #[{ on := 3, ground := Go.Ground.data }], guard := none }) (v := ?_) rfl (by kernel_rfl) (by kernel_rfl) (by kernel_rfl) (fun _ _ _ h => h) (Or.inl ⟨by rfl, ?_⟩) (Below.refl _ _) ?_
  rotate_left
  · intro W hW
    have hld := (Below.cell hW hB0).trans cB0
    clear hW
    go_simp
    all_goals with_reducible rfl
  try simp only [Act.put, List.setIfInBounds_toArray, List.set_cons_zero, List.set_cons_succ]
  refine wpAnyH_take (i := 5) (oi := { dst := some 50, op := Go.Op.binOp Go.BinOp.rem 5 (Go.Operand.tmp 49) (Go.Operand.const (Go.Value.int Go.IntKind.u8 3)) 5, type := 5, pos := "law.go:63", after := #[{ on := 4, ground := Go.Ground.data }], guard := none }) (v := ?_) rfl (by kernel_rfl) (by kernel_rfl) (by kernel_rfl) (fun _ _ _ h => h) (Or.inl ⟨by rfl, ?_⟩) (Below.refl _ _) ?_
  rotate_left
  · intro W hW
    clear hW
    go_simp
    all_goals with_reducible rfl
  try simp only [Act.put, List.setIfInBounds_toArray, List.set_cons_zero, List.set_cons_succ]
  refine wpAnyH_take (i := 8) (oi := { dst := some 53, op := Go.Op.move (Go.Operand.tmp 13), type := 32, pos := "law.go:63", after := #[], guard := none }) (v := ?_) rfl (by kernel_rfl) (by kernel_rfl) (by kernel_rfl) (fun _ _ _ h => h) (Or.inl ⟨by rfl, ?_⟩) (Below.refl _ _) ?_
  rotate_left
  · intro W hW
    clear hW
    go_simp
    all_goals with_reducible rfl
  try simp only [Act.put, List.setIfInBounds_toArray, List.set_cons_zero, List.set_cons_succ]
  refine wpAnyH_take (i := 10) (oi := { dst := some 55, op := Go.Op.move (Go.Operand.tmp 12), type := 3, pos := "law.go:63", after := #[], guard := none }) (v := ?_) rfl (by kernel_rfl) (by kernel_rfl) (by kernel_rfl) (fun _ _ _ h => h) (Or.inl ⟨by rfl, ?_⟩) (Below.refl _ _) ?_
  rotate_left
  · intro W hW
    clear hW
    go_simp
    all_goals with_reducible rfl
  try simp only [Act.put, List.setIfInBounds_toArray, List.set_cons_zero, List.set_cons_succ]
  refine wpAnyH_take (i := 11) (oi := { dst := some 56, op := Go.Op.indexAddr 31 (Go.Operand.tmp 6) (Go.Operand.tmp 55), type := 0, pos := "law.go:63", after := #[{ on := 10, ground := Go.Ground.data }], guard := none }) (v := ?_) rfl (by kernel_rfl) (by kernel_rfl) (by kernel_rfl) (fun _ _ _ h => h) (Or.inl ⟨by rfl, ?_⟩) (Below.refl _ _) ?_
  rotate_left
  · intro W hW
    clear hW
    go_simp
    all_goals with_reducible rfl
  try simp only [Act.put, List.setIfInBounds_toArray, List.set_cons_zero, List.set_cons_succ]
  refine wpAnyH_take (i := 12) (oi := { dst := some 57, op := Go.Op.load 5 (Go.Operand.tmp 56), type := 5, pos := "law.go:63", after := #[{ on := 11, ground := Go.Ground.data }], guard := none }) (v := ?_) rfl (by kernel_rfl) (by kernel_rfl) (by kernel_rfl) (fun _ _ _ h => h) (Or.inl ⟨by rfl, ?_⟩) (Below.refl _ _) ?_
  rotate_left
  · intro W hW
    have hld := (Below.cell hW hB0).trans cB0
    clear hW
    go_simp
    all_goals with_reducible rfl
  try simp only [Act.put, List.setIfInBounds_toArray, List.set_cons_zero, List.set_cons_succ]
  refine wpAnyH_take (i := 13) (oi := { dst := some 58, op := Go.Op.binOp Go.BinOp.rem 5 (Go.Operand.tmp 57) (Go.Operand.const (Go.Value.int Go.IntKind.u8 3)) 5, type := 5, pos := "law.go:63", after := #[{ on := 12, ground := Go.Ground.data }], guard := none }) (v := ?_) rfl (by kernel_rfl) (by kernel_rfl) (by kernel_rfl) (fun _ _ _ h => h) (Or.inl ⟨by rfl, ?_⟩) (Below.refl _ _) ?_
  rotate_left
  · intro W hW
    clear hW
    go_simp
    all_goals with_reducible rfl
  try simp only [Act.put, List.setIfInBounds_toArray, List.set_cons_zero, List.set_cons_succ]
  refine wpAnyH_ready (rs := [1, 9]) (by kernel_rfl) (by simp) ?_
  refine AllReadyH.cons (o := { dst := some 46, op := Go.Op.buildSlice 33 3 #[(0, Go.Operand.const (Go.Value.string { data := #[] })), (1, Go.Operand.const (Go.Value.string { data := #[48] })), (2, Go.Operand.const (Go.Value.string { data := #[48, 120] }))], type := 33, pos := "law.go:63", after := #[], guard := none }) rfl (fun K hK => ?_) ?_
  · go_simp
    refine hK.out _ _ ((Below.refl _ _).alloc (Nat.le_refl _) _) (fun _ => ?_)
    clear hK K
    try simp only [Act.put, List.setIfInBounds_toArray, List.set_cons_zero, List.set_cons_succ]
    refine wpAnyH_move ((Below.refl _ _).alloc (Nat.le_refl _) _) ?_
    obtain ⟨W1, hW⟩ : ∃ W', W' = W0.alloc (.cells #[Go.Value.string { data := #[] }, Go.Value.string { data := #[48] }, Go.Value.string { data := #[48, 120] }] 9) := ⟨_, rfl⟩
    rw [← hW]
    have cS1 : W1.cell? ⟨W0.heap.size, 2, none⟩ = some (.string (pfxB 2)) := by rw [hW, World.cell?_alloc_new]; rfl
    have hS1 : W0.heap.size < W1.heap.size := by rw [hW]; simp
    have hk : Below W0.heap.size W0 W1 := by rw [hW]; exact (Below.refl _ _).alloc (Nat.le_refl _) _
    clear hW
    have HW1 := Aside0.mk (below_then HW0.out HW0.out.size hk)
    have cB1 := (hk.cell hB0).trans cB0
    have hB1 := Nat.lt_of_lt_of_le hB0 hk.size
    clear hk
    clear cB0
    refine wpAnyH_take (i := 6) (oi := { dst := some 51, op := Go.Op.indexAddr 33 (Go.Operand.tmp 46) (Go.Operand.tmp 50), type := 0, pos := "law.go:63", after := #[{ on := 1, ground := Go.Ground.data }, { on := 5, ground := Go.Ground.data }], guard := none }) (v := ?_) rfl (by kernel_rfl) (by kernel_rfl) (by kernel_rfl) (fun _ _ _ h => h) (Or.inl ⟨by rfl, ?_⟩) (Below.refl _ _) ?_
    rotate_left
    · intro W hW
      clear hW
      go_simp
      all_goals with_reducible rfl
    try simp only [Act.put, List.setIfInBounds_toArray, List.set_cons_zero, List.set_cons_succ]
    refine wpAnyH_take (i := 7) (oi := { dst := some 52, op := Go.Op.load 9 (Go.Operand.tmp 51), type := 9, pos := "law.go:63", after := #[{ on := 6, ground := Go.Ground.data }], guard := none }) (v := ?_) rfl (by kernel_rfl) (by kernel_rfl) (by kernel_rfl) (fun _ _ _ h => h) (Or.inl ⟨by rfl, ?_⟩) (Below.refl _ _) ?_
    rotate_left
    · intro W hW
      have hld := (Below.cell hW hS1).trans cS1
      clear hW
      go_simp
      all_goals with_reducible rfl
    try simp only [Act.put, List.setIfInBounds_toArray, List.set_cons_zero, List.set_cons_succ]
    refine wpAnyH_ready (rs := [9]) (by kernel_rfl) (by simp) ?_
    refine AllReadyH.cons (o := { dst := some 54, op := Go.Op.buildSlice 35 3 #[(0, Go.Operand.const (Go.Value.int Go.IntKind.i64 10)), (1, Go.Operand.const (Go.Value.int Go.IntKind.i64 8)), (2, Go.Operand.const (Go.Value.int Go.IntKind.i64 16))], type := 35, pos := "law.go:63", after := #[], guard := none }) rfl (fun K hK => ?_) ?_
    · go_simp
      refine hK.out _ _ ((Below.refl _ _).alloc (Nat.le_refl _) _) (fun _ => ?_)
      clear hK K
      try simp only [Act.put, List.setIfInBounds_toArray, List.set_cons_zero, List.set_cons_succ]
      refine wpAnyH_move ((Below.refl _ _).alloc (Nat.le_refl _) _) ?_
      obtain ⟨W2, hW⟩ : ∃ W', W' = W1.alloc (.cells #[Go.Value.int Go.IntKind.i64 10, Go.Value.int Go.IntKind.i64 8, Go.Value.int Go.IntKind.i64 16] 3) := ⟨_, rfl⟩
      rw [← hW]
      have cI2 : W2.cell? ⟨W1.heap.size, 2, none⟩ = some (.int .i64 16) := by rw [hW, World.cell?_alloc_new]; rfl
      have hI2 : W1.heap.size < W2.heap.size := by rw [hW]; simp
      have hk : Below W1.heap.size W1 W2 := by rw [hW]; exact (Below.refl _ _).alloc (Nat.le_refl _) _
      clear hW
      have HW2 := Aside0.mk (below_then HW1.out HW1.out.size hk)
      have cB2 := (hk.cell hB1).trans cB1
      have hB2 := Nat.lt_of_lt_of_le hB1 hk.size
      have cS2 := (hk.cell hS1).trans cS1
      have hS2 := Nat.lt_of_lt_of_le hS1 hk.size
      clear hk
      clear cB1 cS1
      refine wpAnyH_take (i := 14) (oi := { dst := some 59, op := Go.Op.indexAddr 35 (Go.Operand.tmp 54) (Go.Operand.tmp 58), type := 0, pos := "law.go:63", after := #[{ on := 9, ground := Go.Ground.data }, { on := 13, ground := Go.Ground.data }], guard := none }) (v := ?_) rfl (by kernel_rfl) (by kernel_rfl) (by kernel_rfl) (fun _ _ _ h => h) (Or.inl ⟨by rfl, ?_⟩) (Below.refl _ _) ?_
      rotate_left
      · intro W hW
        clear hW
        go_simp
        all_goals with_reducible rfl
      try simp only [Act.put, List.setIfInBounds_toArray, List.set_cons_zero, List.set_cons_succ]
      refine wpAnyH_take (i := 15) (oi := { dst := some 60, op := Go.Op.load 3 (Go.Operand.tmp 59), type := 3, pos := "law.go:63", after := #[{ on := 14, ground := Go.Ground.data }], guard := none }) (v := ?_) rfl (by kernel_rfl) (by kernel_rfl) (by kernel_rfl) (fun _ _ _ h => h) (Or.inl ⟨by rfl, ?_⟩) (Below.refl _ _) ?_
      rotate_left
      · intro W hW
        have hld := (Below.cell hW hI2).trans cI2
        clear hW
        go_simp
        all_goals with_reducible rfl
      try simp only [Act.put, List.setIfInBounds_toArray, List.set_cons_zero, List.set_cons_succ]
      refine wpAnyH_ready (rs := [16]) (by kernel_rfl) (by simp) ?_
      refine AllReadyH.cons (o := { dst := some 61, op := Go.Op.call { callee := Go.Callee.value (Go.Operand.func 16), args := #[Go.Operand.tmp 53, Go.Operand.tmp 60], argTypes := #[32, 3] }, type := 9, pos := "law.go:63", after := #[{ on := 8, ground := Go.Ground.data }, { on := 15, ground := Go.Ground.data }], guard := none }) rfl (fun K hK => ?_) ?_
      · go_simp
        refine (FormatUint_calls 16 (by omega) x hx W2 (hP.out.stays HW2.out) (hT.out.stays HW2.out)).mono ?_
        rintro e W3 ⟨rfl, hk⟩
        rw [← HY.out]
        refine hK.out _ _ hk (fun _ => ?_)
        clear hK K
        try simp only [Act.put, List.setIfInBounds_toArray, List.set_cons_zero, List.set_cons_succ]
        refine wpAnyH_move hk ?_
        have HW3 := Aside0.mk (below_then HW2.out HW2.out.size hk)
        have cB3 := (hk.cell hB2).trans cB2
        have hB3 := Nat.lt_of_lt_of_le hB2 hk.size
        have cI3 := (hk.cell hI2).trans cI2
        have hI3 := Nat.lt_of_lt_of_le hI2 hk.size
        have cS3 := (hk.cell hS2).trans cS2
        have hS3 := Nat.lt_of_lt_of_le hS2 hk.size
        clear hk
        clear cB2 cI2 cS2
        refine wpAnyH_ready (rs := [17]) (by kernel_rfl) (by simp) ?_
        refine AllReadyH.cons (o := { dst := some 62, op := Go.Op.binOp Go.BinOp.add 9 (Go.Operand.tmp 52) (Go.Operand.tmp 61) 9, type := 9, pos := "law.go:63", after := #[{ on := 7, ground := Go.Ground.data }, { on := 16, ground := Go.Ground.data }], guard := none }) rfl (fun K hK => ?_) ?_
        · go_simp
          go_wp2_with fail
          refine hK.out _ _ (Below.refl _ _) (fun _ => ?_)
          clear hK K
          try simp only [Act.put, List.setIfInBounds_toArray, List.set_cons_zero, List.set_cons_succ]
          refine wpAnyH_ready (rs := [18]) (by kernel_rfl) (by simp) ?_
          refine AllReadyH.cons (o := { dst := some 63, op := Go.Op.binOp Go.BinOp.add 9 (Go.Operand.tmp 62) (Go.Operand.const (Go.Value.string { data := #[46] })) 9, type := 9, pos := "law.go:63", after := #[{ on := 17, ground := Go.Ground.data }], guard := none }) rfl (fun K hK => ?_) ?_
          · go_simp
            go_wp2_with fail
            refine hK.out _ _ (Below.refl _ _) (fun _ => ?_)
            clear hK K
            try simp only [Act.put, List.setIfInBounds_toArray, List.set_cons_zero, List.set_cons_succ]
            refine wpAnyH_ready (rs := [19]) (by kernel_rfl) (by simp) ?_
            refine AllReadyH.cons (o := { dst := some 64, op := Go.Op.binOp Go.BinOp.add 9 (Go.Operand.tmp 45) (Go.Operand.tmp 63) 9, type := 9, pos := "law.go:63", after := #[{ on := 0, ground := Go.Ground.data }, { on := 18, ground := Go.Ground.data }], guard := none }) rfl (fun K hK => ?_) ?_
            · go_simp
              go_wp2_with fail
              refine hK.out _ _ (Below.refl _ _) (fun _ => ?_)
              clear hK K
              try simp only [Act.put, List.setIfInBounds_toArray, List.set_cons_zero, List.set_cons_succ]
              refine wpAnyH_ready (rs := [20]) (by kernel_rfl) (by simp) ?_
              refine AllReadyH.cons (o := { dst := some 10, op := Go.Op.assign (Go.Operand.tmp 64), type := 9, pos := "law.go:63", after := #[{ on := 19, ground := Go.Ground.data }, { on := 16, ground := Go.Ground.chain }, { on := 0, ground := Go.Ground.phase }, { on := 1, ground := Go.Ground.phase }, { on := 2, ground := Go.Ground.phase }, { on := 3, ground := Go.Ground.phase }, { on := 4, ground := Go.Ground.phase }, { on := 5, ground := Go.Ground.phase }, { on := 6, ground := Go.Ground.phase }, { on := 7, ground := Go.Ground.phase }, { on := 8, ground := Go.Ground.phase }, { on := 9, ground := Go.Ground.phase }, { on := 10, ground := Go.Ground.phase }, { on := 11, ground := Go.Ground.phase }, { on := 12, ground := Go.Ground.phase }, { on := 13, ground := Go.Ground.phase }, { on := 14, ground := Go.Ground.phase }, { on := 15, ground := Go.Ground.phase }, { on := 16, ground := Go.Ground.phase }, { on := 17, ground := Go.Ground.phase }, { on := 18, ground := Go.Ground.phase }, { on := 19, ground := Go.Ground.phase }], guard := none }) rfl (fun K hK => ?_) ?_
              · go_simp
                refine hK.out _ _ (Below.refl _ _) (fun _ => ?_)
                clear hK K
                try simp only [Act.put, List.setIfInBounds_toArray, List.set_cons_zero, List.set_cons_succ]
                refine wpAnyH_done (by kernel_rfl) ?_ _
                exact HQ.out _ _ _ _ _ _ _ _ _ _ _ _ _ _ _ _ _ _ _ _ W3 HW3.out
              exact AllReadyH.nil
            exact AllReadyH.nil
          exact AllReadyH.nil
        exact AllReadyH.nil
      exact AllReadyH.nil
    exact AllReadyH.nil
  refine AllReadyH.cons (o := { dst := some 54, op := Go.Op.buildSlice 35 3 #[(0, Go.Operand.const (Go.Value.int Go.IntKind.i64 10)), (1, Go.Operand.const (Go.Value.int Go.IntKind.i64 8)), (2, Go.Operand.const (Go.Value.int Go.IntKind.i64 16))], type := 35, pos := "law.go:63", after := #[], guard := none }) rfl (fun K hK => ?_) ?_
  · go_simp
    refine hK.out _ _ ((Below.refl _ _).alloc (Nat.le_refl _) _) (fun _ => ?_)
    clear hK K
    try simp only [Act.put, List.setIfInBounds_toArray, List.set_cons_zero, List.set_cons_succ]
    refine wpAnyH_move ((Below.refl _ _).alloc (Nat.le_refl _) _) ?_
    obtain ⟨W1, hW⟩ : ∃ W', W' = W0.alloc (.cells #[Go.Value.int Go.IntKind.i64 10, Go.Value.int Go.IntKind.i64 8, Go.Value.int Go.IntKind.i64 16] 3) := ⟨_, rfl⟩
    rw [← hW]
    have cI1 : W1.cell? ⟨W0.heap.size, 2, none⟩ = some (.int .i64 16) := by rw [hW, World.cell?_alloc_new]; rfl
    have hI1 : W0.heap.size < W1.heap.size := by rw [hW]; simp
    have hk : Below W0.heap.size W0 W1 := by rw [hW]; exact (Below.refl _ _).alloc (Nat.le_refl _) _
    clear hW
    have HW1 := Aside0.mk (below_then HW0.out HW0.out.size hk)
    have cB1 := (hk.cell hB0).trans cB0
    have hB1 := Nat.lt_of_lt_of_le hB0 hk.size
    clear hk
    clear cB0
    refine wpAnyH_take (i := 14) (oi := { dst := some 59, op := Go.Op.indexAddr 35 (Go.Operand.tmp 54) (Go.Operand.tmp 58), type := 0, pos := "law.go:63", after := #[{ on := 9, ground := Go.Ground.data }, { on := 13, ground := Go.Ground.data }], guard := none }) (v := ?_) rfl (by kernel_rfl) (by kernel_rfl) (by kernel_rfl) (fun _ _ _ h => h) (Or.inl ⟨by rfl, ?_⟩) (Below.refl _ _) ?_
    rotate_left
    · intro W hW
      clear hW
      go_simp
      all_goals with_reducible rfl
    try simp only [Act.put, List.setIfInBounds_toArray, List.set_cons_zero, List.set_cons_succ]
    refine wpAnyH_take (i := 15) (oi := { dst := some 60, op := Go.Op.load 3 (Go.Operand.tmp 59), type := 3, pos := "law.go:63", after := #[{ on := 14, ground := Go.Ground.data }], guard := none }) (v := ?_) rfl (by kernel_rfl) (by kernel_rfl) (by kernel_rfl) (fun _ _ _ h => h) (Or.inl ⟨by rfl, ?_⟩) (Below.refl _ _) ?_
    rotate_left
    · intro W hW
      have hld := (Below.cell hW hI1).trans cI1
      clear hW
      go_simp
      all_goals with_reducible rfl
    try simp only [Act.put, List.setIfInBounds_toArray, List.set_cons_zero, List.set_cons_succ]
    refine wpAnyH_ready (rs := [1, 16]) (by kernel_rfl) (by simp) ?_
    refine AllReadyH.cons (o := { dst := some 46, op := Go.Op.buildSlice 33 3 #[(0, Go.Operand.const (Go.Value.string { data := #[] })), (1, Go.Operand.const (Go.Value.string { data := #[48] })), (2, Go.Operand.const (Go.Value.string { data := #[48, 120] }))], type := 33, pos := "law.go:63", after := #[], guard := none }) rfl (fun K hK => ?_) ?_
    · go_simp
      refine hK.out _ _ ((Below.refl _ _).alloc (Nat.le_refl _) _) (fun _ => ?_)
      clear hK K
      try simp only [Act.put, List.setIfInBounds_toArray, List.set_cons_zero, List.set_cons_succ]
      refine wpAnyH_move ((Below.refl _ _).alloc (Nat.le_refl _) _) ?_
      obtain ⟨W2, hW⟩ : ∃ W', W' = W1.alloc (.cells #[Go.Value.string { data := #[] }, Go.Value.string { data := #[48] }, Go.Value.string { data := #[48, 120] }] 9) := ⟨_, rfl⟩
      rw [← hW]
      have cS2 : W2.cell? ⟨W1.heap.size, 2, none⟩ = some (.string (pfxB 2)) := by rw [hW, World.cell?_alloc_new]; rfl
      have hS2 : W1.heap.size < W2.heap.size := by rw [hW]; simp
      have hk : Below W1.heap.size W1 W2 := by rw [hW]; exact (Below.refl _ _).alloc (Nat.le_refl _) _
      clear hW
      have HW2 := Aside0.mk (below_then HW1.out HW1.out.size hk)
      have cB2 := (hk.cell hB1).trans cB1
      have hB2 := Nat.lt_of_lt_of_le hB1 hk.size
      have cI2 := (hk.cell hI1).trans cI1
      have hI2 := Nat.lt_of_lt_of_le hI1 hk.size
      clear hk
      clear cB1 cI1
      refine wpAnyH_take (i := 6) (oi := { dst := some 51, op := Go.Op.indexAddr 33 (Go.Operand.tmp 46) (Go.Operand.tmp 50), type := 0, pos := "law.go:63", after := #[{ on := 1, ground := Go.Ground.data }, { on := 5, ground := Go.Ground.data }], guard := none }) (v := ?_) rfl (by kernel_rfl) (by kernel_rfl) (by kernel_rfl) (fun _ _ _ h => h) (Or.inl ⟨by rfl, ?_⟩) (Below.refl _ _) ?_
      rotate_left
      · intro W hW
        clear hW
        go_simp
        all_goals with_reducible rfl
      try simp only [Act.put, List.setIfInBounds_toArray, List.set_cons_zero, List.set_cons_succ]
      refine wpAnyH_take (i := 7) (oi := { dst := some 52, op := Go.Op.load 9 (Go.Operand.tmp 51), type := 9, pos := "law.go:63", after := #[{ on := 6, ground := Go.Ground.data }], guard := none }) (v := ?_) rfl (by kernel_rfl) (by kernel_rfl) (by kernel_rfl) (fun _ _ _ h => h) (Or.inl ⟨by rfl, ?_⟩) (Below.refl _ _) ?_
      rotate_left
      · intro W hW
        have hld := (Below.cell hW hS2).trans cS2
        clear hW
        go_simp
        all_goals with_reducible rfl
      try simp only [Act.put, List.setIfInBounds_toArray, List.set_cons_zero, List.set_cons_succ]
      refine wpAnyH_ready (rs := [16]) (by kernel_rfl) (by simp) ?_
      refine AllReadyH.cons (o := { dst := some 61, op := Go.Op.call { callee := Go.Callee.value (Go.Operand.func 16), args := #[Go.Operand.tmp 53, Go.Operand.tmp 60], argTypes := #[32, 3] }, type := 9, pos := "law.go:63", after := #[{ on := 8, ground := Go.Ground.data }, { on := 15, ground := Go.Ground.data }], guard := none }) rfl (fun K hK => ?_) ?_
      · go_simp
        refine (FormatUint_calls 16 (by omega) x hx W2 (hP.out.stays HW2.out) (hT.out.stays HW2.out)).mono ?_
        rintro e W3 ⟨rfl, hk⟩
        rw [← HY.out]
        refine hK.out _ _ hk (fun _ => ?_)
        clear hK K
        try simp only [Act.put, List.setIfInBounds_toArray, List.set_cons_zero, List.set_cons_succ]
        refine wpAnyH_move hk ?_
        have HW3 := Aside0.mk (below_then HW2.out HW2.out.size hk)
        have cB3 := (hk.cell hB2).trans cB2
        have hB3 := Nat.lt_of_lt_of_le hB2 hk.size
        have cI3 := (hk.cell hI2).trans cI2
        have hI3 := Nat.lt_of_lt_of_le hI2 hk.size
        have cS3 := (hk.cell hS2).trans cS2
        have hS3 := Nat.lt_of_lt_of_le hS2 hk.size
        clear hk
        clear cB2 cI2 cS2
        refine wpAnyH_ready (rs := [17]) (by kernel_rfl) (by simp) ?_
        refine AllReadyH.cons (o := { dst := some 62, op := Go.Op.binOp Go.BinOp.add 9 (Go.Operand.tmp 52) (Go.Operand.tmp 61) 9, type := 9, pos := "law.go:63", after := #[{ on := 7, ground := Go.Ground.data }, { on := 16, ground := Go.Ground.data }], guard := none }) rfl (fun K hK => ?_) ?_
        · go_simp
          go_wp2_with fail
          refine hK.out _ _ (Below.refl _ _) (fun _ => ?_)
          clear hK K
          try simp only [Act.put, List.setIfInBounds_toArray, List.set_cons_zero, List.set_cons_succ]
          refine wpAnyH_ready (rs := [18]) (by kernel_rfl) (by simp) ?_
          refine AllReadyH.cons (o := { dst := some 63, op := Go.Op.binOp Go.BinOp.add 9 (Go.Operand.tmp 62) (Go.Operand.const (Go.Value.string { data := #[46] })) 9, type := 9, pos := "law.go:63", after := #[{ on := 17, ground := Go.Ground.data }], guard := none }) rfl (fun K hK => ?_) ?_
          · go_simp
            go_wp2_with fail
            refine hK.out _ _ (Below.refl _ _) (fun _ => ?_)
            clear hK K
            try simp only [Act.put, List.setIfInBounds_toArray, List.set_cons_zero, List.set_cons_succ]
            refine wpAnyH_ready (rs := [19]) (by kernel_rfl) (by simp) ?_
            refine AllReadyH.cons (o := { dst := some 64, op := Go.Op.binOp Go.BinOp.add 9 (Go.Operand.tmp 45) (Go.Operand.tmp 63) 9, type := 9, pos := "law.go:63", after := #[{ on := 0, ground := Go.Ground.data }, { on := 18, ground := Go.Ground.data }], guard := none }) rfl (fun K hK => ?_) ?_
            · go_simp
              go_wp2_with fail
              refine hK.out _ _ (Below.refl _ _) (fun _ => ?_)
              clear hK K
              try simp only [Act.put, List.setIfInBounds_toArray, List.set_cons_zero, List.set_cons_succ]
              refine wpAnyH_ready (rs := [20]) (by kernel_rfl) (by simp) ?_
              refine AllReadyH.cons (o := { dst := some 10, op := Go.Op.assign (Go.Operand.tmp 64), type := 9, pos := "law.go:63", after := #[{ on := 19, ground := Go.Ground.data }, { on := 16, ground := Go.Ground.chain }, { on := 0, ground := Go.Ground.phase }, { on := 1, ground := Go.Ground.phase }, { on := 2, ground := Go.Ground.phase }, { on := 3, ground := Go.Ground.phase }, { on := 4, ground := Go.Ground.phase }, { on := 5, ground := Go.Ground.phase }, { on := 6, ground := Go.Ground.phase }, { on := 7, ground := Go.Ground.phase }, { on := 8, ground := Go.Ground.phase }, { on := 9, ground := Go.Ground.phase }, { on := 10, ground := Go.Ground.phase }, { on := 11, ground := Go.Ground.phase }, { on := 12, ground := Go.Ground.phase }, { on := 13, ground := Go.Ground.phase }, { on := 14, ground := Go.Ground.phase }, { on := 15, ground := Go.Ground.phase }, { on := 16, ground := Go.Ground.phase }, { on := 17, ground := Go.Ground.phase }, { on := 18, ground := Go.Ground.phase }, { on := 19, ground := Go.Ground.phase }], guard := none }) rfl (fun K hK => ?_) ?_
              · go_simp
                refine hK.out _ _ (Below.refl _ _) (fun _ => ?_)
                clear hK K
                try simp only [Act.put, List.setIfInBounds_toArray, List.set_cons_zero, List.set_cons_succ]
                refine wpAnyH_done (by kernel_rfl) ?_ _
                exact HQ.out _ _ _ _ _ _ _ _ _ _ _ _ _ _ _ _ _ _ _ _ W3 HW3.out
              exact AllReadyH.nil
            exact AllReadyH.nil
          exact AllReadyH.nil
        exact AllReadyH.nil
      exact AllReadyH.nil
    refine AllReadyH.cons (o := { dst := some 61, op := Go.Op.call { callee := Go.Callee.value (Go.Operand.func 16), args := #[Go.Operand.tmp 53, Go.Operand.tmp 60], argTypes := #[32, 3] }, type := 9, pos := "law.go:63", after := #[{ on := 8, ground := Go.Ground.data }, { on := 15, ground := Go.Ground.data }], guard := none }) rfl (fun K hK => ?_) ?_
    · go_simp
      refine (FormatUint_calls 16 (by omega) x hx W1 (hP.out.stays HW1.out) (hT.out.stays HW1.out)).mono ?_
      rintro e W2 ⟨rfl, hk⟩
      rw [← HY.out]
      refine hK.out _ _ hk (fun _ => ?_)
      clear hK K
      try simp only [Act.put, List.setIfInBounds_toArray, List.set_cons_zero, List.set_cons_succ]
      refine wpAnyH_move hk ?_
      have HW2 := Aside0.mk (below_then HW1.out HW1.out.size hk)
      have cB2 := (hk.cell hB1).trans cB1
      have hB2 := Nat.lt_of_lt_of_le hB1 hk.size
      have cI2 := (hk.cell hI1).trans cI1
      have hI2 := Nat.lt_of_lt_of_le hI1 hk.size
      clear hk
      clear cB1 cI1
      refine wpAnyH_ready (rs := [1]) (by kernel_rfl) (by simp) ?_
      refine AllReadyH.cons (o := { dst := some 46, op := Go.Op.buildSlice 33 3 #[(0, Go.Operand.const (Go.Value.string { data := #[] })), (1, Go.Operand.const (Go.Value.string { data := #[48] })), (2, Go.Operand.const (Go.Value.string { data := #[48, 120] }))], type := 33, pos := "law.go:63", after := #[], guard := none }) rfl (fun K hK => ?_) ?_
      · go_simp
        refine hK.out _ _ ((Below.refl _ _).alloc (Nat.le_refl _) _) (fun _ => ?_)
        clear hK K
        try simp only [Act.put, List.setIfInBounds_toArray, List.set_cons_zero, List.set_cons_succ]
        refine wpAnyH_move ((Below.refl _ _).alloc (Nat.le_refl _) _) ?_
        obtain ⟨W3, hW⟩ : ∃ W', W' = W2.alloc (.cells #[Go.Value.string { data := #[] }, Go.Value.string { data := #[48] }, Go.Value.string { data := #[48, 120] }] 9) := ⟨_, rfl⟩
        rw [← hW]
        have cS3 : W3.cell? ⟨W2.heap.size, 2, none⟩ = some (.string (pfxB 2)) := by rw [hW, World.cell?_alloc_new]; rfl
        have hS3 : W2.heap.size < W3.heap.size := by rw [hW]; simp
        have hk : Below W2.heap.size W2 W3 := by rw [hW]; exact (Below.refl _ _).alloc (Nat.le_refl _) _
        clear hW
        have HW3 := Aside0.mk (below_then HW2.out HW2.out.size hk)
        have cB3 := (hk.cell hB2).trans cB2
        have hB3 := Nat.lt_of_lt_of_le hB2 hk.size
        have cI3 := (hk.cell hI2).trans cI2
        have hI3 := Nat.lt_of_lt_of_le hI2 hk.size
        clear hk
        clear cB2 cI2
        refine wpAnyH_take (i := 6) (oi := { dst := some 51, op := Go.Op.indexAddr 33 (Go.Operand.tmp 46) (Go.Operand.tmp 50), type := 0, pos := "law.go:63", after := #[{ on := 1, ground := Go.Ground.data }, { on := 5, ground := Go.Ground.data }], guard := none }) (v := ?_) rfl (by kernel_rfl) (by kernel_rfl) (by kernel_rfl) (fun _ _ _ h => h) (Or.inl ⟨by rfl, ?_⟩) (Below.refl _ _) ?_
        rotate_left
        · intro W hW
          clear hW
          go_simp
          all_goals with_reducible rfl
        try simp only [Act.put, List.setIfInBounds_toArray, List.set_cons_zero, List.set_cons_succ]
        refine wpAnyH_take (i := 7) (oi := { dst := some 52, op := Go.Op.load 9 (Go.Operand.tmp 51), type := 9, pos := "law.go:63", after := #[{ on := 6, ground := Go.Ground.data }], guard := none }) (v := ?_) rfl (by kernel_rfl) (by kernel_rfl) (by kernel_rfl) (fun _ _ _ h => h) (Or.inl ⟨by rfl, ?_⟩) (Below.refl _ _) ?_
        rotate_left
        · intro W hW
          have hld := (Below.cell hW hS3).trans cS3
          clear hW
          go_simp
          all_goals with_reducible rfl
        try simp only [Act.put, List.setIfInBounds_toArray, List.set_cons_zero, List.set_cons_succ]
        refine wpAnyH_ready (rs := [17]) (by kernel_rfl) (by simp) ?_
        refine AllReadyH.cons (o := { dst := some 62, op := Go.Op.binOp Go.BinOp.add 9 (Go.Operand.tmp 52) (Go.Operand.tmp 61) 9, type := 9, pos := "law.go:63", after := #[{ on := 7, ground := Go.Ground.data }, { on := 16, ground := Go.Ground.data }], guard := none }) rfl (fun K hK => ?_) ?_
        · go_simp
          go_wp2_with fail
          refine hK.out _ _ (Below.refl _ _) (fun _ => ?_)
          clear hK K
          try simp only [Act.put, List.setIfInBounds_toArray, List.set_cons_zero, List.set_cons_succ]
          refine wpAnyH_ready (rs := [18]) (by kernel_rfl) (by simp) ?_
          refine AllReadyH.cons (o := { dst := some 63, op := Go.Op.binOp Go.BinOp.add 9 (Go.Operand.tmp 62) (Go.Operand.const (Go.Value.string { data := #[46] })) 9, type := 9, pos := "law.go:63", after := #[{ on := 17, ground := Go.Ground.data }], guard := none }) rfl (fun K hK => ?_) ?_
          · go_simp
            go_wp2_with fail
            refine hK.out _ _ (Below.refl _ _) (fun _ => ?_)
            clear hK K
            try simp only [Act.put, List.setIfInBounds_toArray, List.set_cons_zero, List.set_cons_succ]
            refine wpAnyH_ready (rs := [19]) (by kernel_rfl) (by simp) ?_
            refine AllReadyH.cons (o := { dst := some 64, op := Go.Op.binOp Go.BinOp.add 9 (Go.Operand.tmp 45) (Go.Operand.tmp 63) 9, type := 9, pos := "law.go:63", after := #[{ on := 0, ground := Go.Ground.data }, { on := 18, ground := Go.Ground.data }], guard := none }) rfl (fun K hK => ?_) ?_
            · go_simp
              go_wp2_with fail
              refine hK.out _ _ (Below.refl _ _) (fun _ => ?_)
              clear hK K
              try simp only [Act.put, List.setIfInBounds_toArray, List.set_cons_zero, List.set_cons_succ]
              refine wpAnyH_ready (rs := [20]) (by kernel_rfl) (by simp) ?_
              refine AllReadyH.cons (o := { dst := some 10, op := Go.Op.assign (Go.Operand.tmp 64), type := 9, pos := "law.go:63", after := #[{ on := 19, ground := Go.Ground.data }, { on := 16, ground := Go.Ground.chain }, { on := 0, ground := Go.Ground.phase }, { on := 1, ground := Go.Ground.phase }, { on := 2, ground := Go.Ground.phase }, { on := 3, ground := Go.Ground.phase }, { on := 4, ground := Go.Ground.phase }, { on := 5, ground := Go.Ground.phase }, { on := 6, ground := Go.Ground.phase }, { on := 7, ground := Go.Ground.phase }, { on := 8, ground := Go.Ground.phase }, { on := 9, ground := Go.Ground.phase }, { on := 10, ground := Go.Ground.phase }, { on := 11, ground := Go.Ground.phase }, { on := 12, ground := Go.Ground.phase }, { on := 13, ground := Go.Ground.phase }, { on := 14, ground := Go.Ground.phase }, { on := 15, ground := Go.Ground.phase }, { on := 16, ground := Go.Ground.phase }, { on := 17, ground := Go.Ground.phase }, { on := 18, ground := Go.Ground.phase }, { on := 19, ground := Go.Ground.phase }], guard := none }) rfl (fun K hK => ?_) ?_
              · go_simp
                refine hK.out _ _ (Below.refl _ _) (fun _ => ?_)
                clear hK K
                try simp only [Act.put, List.setIfInBounds_toArray, List.set_cons_zero, List.set_cons_succ]
                refine wpAnyH_done (by kernel_rfl) ?_ _
                exact HQ.out _ _ _ _ _ _ _ _ _ _ _ _ _ _ _ _ _ _ _ _ W3 HW3.out
              exact AllReadyH.nil
            exact AllReadyH.nil
          exact AllReadyH.nil
        exact AllReadyH.nil
      exact AllReadyH.nil
    exact AllReadyH.nil
  exact AllReadyH.nil
set_option maxHeartbeats 40000000 in
set_option maxRecDepth 100000 in
theorem short_reg13_0 {t0 t1 t2 t3 t4 t5 t7 t8 t9 t11 t14 t15 t16 t17 t18 t19 t20 t21 t22 t23 t24 t25 t26 t27 t28 t29 t30 t31 t32 t33 t34 t35 t36 t37 t38 t39 t40 t41 t42 t43 t44 t45 t46 t47 t48 t49 t50 t51 t52 t53 t54 t55 t56 t57 t58 t59 t60 t61 t62 t63 t64 t65 t66 t67 t68 t69 t70 t71 t72 t73 t74 t75 t76 t77 t78 t79 t80 t81 t82 t83 t84 t85 t86 t87 t88 t89 t90 t91 t92 t93 t94 t95 t96 t97 t98 : Value} (B j x bv : Nat) (z : ByteArray) (Q : Exit → Act → World → Prop) (w : World) (hj : j < 4) (hx : x < 18446744073709551616) (hbm : (bv : Int) % 3 = 0) (hz : z.size ≤ 400)
    (hB : B < w.heap.size) (hc : w.cell? ⟨B, j, none⟩ = some (.int .u8 (bv : Int))) (hP : Aside0 (Pows w)) (hT : Aside0 (Debr w))
    (hQ : ∀ (s65 s66 s67 s68 s69 s70 s71 s72 s73 s74 s75 s76 s77 s78 s79 s80 s81 s82 s83 : Value) (W : World), Below w.heap.size w W → Q .normal { tmps := List.toArray (t0 :: t1 :: t2 :: t3 :: t4 :: t5 :: .pointer (some ⟨B, 0, none⟩) :: t7 :: t8 :: t9 :: .string (z ++ (pfxB 0 ++ ⟨(digB 10 x).toArray⟩)) :: t11 :: .int .i64 (j : Int) :: .int .u64 (x : Int) :: t14 :: t15 :: t16 :: t17 :: t18 :: t19 :: t20 :: t21 :: t22 :: t23 :: t24 :: t25 :: t26 :: t27 :: t28 :: t29 :: t30 :: t31 :: t32 :: t33 :: t34 :: t35 :: t36 :: t37 :: t38 :: t39 :: t40 :: t41 :: t42 :: t43 :: t44 :: t45 :: t46 :: t47 :: t48 :: t49 :: t50 :: t51 :: t52 :: t53 :: t54 :: t55 :: t56 :: t57 :: t58 :: t59 :: t60 :: t61 :: t62 :: t63 :: t64 :: s65 :: s66 :: s67 :: s68 :: s69 :: s70 :: s71 :: s72 :: s73 :: s74 :: s75 :: s76 :: s77 :: s78 :: s79 :: s80 :: s81 :: s82 :: s83 :: t84 :: t85 :: t86 :: t87 :: t88 :: t89 :: t90 :: t91 :: t92 :: t93 :: t94 :: t95 :: t96 :: t97 :: t98 :: []), defers := [] } W) :
    (Code.region 13 #[{ dst := some 65, op := Go.Op.move (Go.Operand.tmp 10), type := 9, pos := "law.go:66", after := #[], guard := none }, { dst := some 66, op := Go.Op.buildSlice 33 3 #[(0, Go.Operand.const (Go.Value.string { data := #[] })), (1, Go.Operand.const (Go.Value.string { data := #[48] })), (2, Go.Operand.const (Go.Value.string { data := #[48, 120] }))], type := 33, pos := "law.go:66", after := #[], guard := none }, { dst := some 67, op := Go.Op.move (Go.Operand.tmp 12), type := 3, pos := "law.go:66", after := #[], guard := none }, { dst := some 68, op := Go.Op.indexAddr 31 (Go.Operand.tmp 6) (Go.Operand.tmp 67), type := 0, pos := "law.go:66", after := #[{ on := 2, ground := Go.Ground.data }], guard := none }, { dst := some 69, op := Go.Op.load 5 (Go.Operand.tmp 68), type := 5, pos := "law.go:66", after := #[{ on := 3, ground := Go.Ground.data }], guard := none }, { dst := some 70, op := Go.Op.binOp Go.BinOp.rem 5 (Go.Operand.tmp 69) (Go.Operand.const (Go.Value.int Go.IntKind.u8 3)) 5, type := 5, pos := "law.go:66", after := #[{ on := 4, ground := Go.Ground.data }], guard := none }, { dst := some 71, op := Go.Op.indexAddr 33 (Go.Operand.tmp 66) (Go.Operand.tmp 70), type := 0, pos := "law.go:66", after := #[{ on := 1, ground := Go.Ground.data }, { on := 5, ground := Go.Ground.data }], guard := none }, { dst := some 72, op := Go.Op.load 9 (Go.Operand.tmp 71), type := 9, pos := "law.go:66", after := #[{ on := 6, ground := Go.Ground.data }], guard := none }, { dst := some 73, op := Go.Op.move (Go.Operand.tmp 13), type := 32, pos := "law.go:66", after := #[], guard := none }, { dst := some 74, op := Go.Op.buildSlice 35 3 #[(0, Go.Operand.const (Go.Value.int Go.IntKind.i64 10)), (1, Go.Operand.const (Go.Value.int Go.IntKind.i64 8)), (2, Go.Operand.const (Go.Value.int Go.IntKind.i64 16))], type := 35, pos := "law.go:66", after := #[], guard := none }, { dst := some 75, op := Go.Op.move (Go.Operand.tmp 12), type := 3, pos := "law.go:66", after := #[], guard := none }, { dst := some 76, op := Go.Op.indexAddr 31 (Go.Operand.tmp 6) (Go.Operand.tmp 75), type := 0, pos := "law.go:66", after := #[{ on := 10, ground := Go.Ground.data }], guard := none }, { dst := some 77, op := Go.Op.load 5 (Go.Operand.tmp 76), type := 5, pos := "law.go:66", after := #[{ on := 11, ground := Go.Ground.data }], guard := none }, { dst := some 78, op := Go.Op.binOp Go.BinOp.rem 5 (Go.Operand.tmp 77) (Go.Operand.const (Go.Value.int Go.IntKind.u8 3)) 5, type := 5, pos := "law.go:66", after := #[{ on := 12, ground := Go.Ground.data }], guard := none }, { dst := some 79, op := Go.Op.indexAddr 35 (Go.Operand.tmp 74) (Go.Operand.tmp 78), type := 0, pos := "law.go:66", after := #[{ on := 9, ground := Go.Ground.data }, { on := 13, ground := Go.Ground.data }], guard := none }, { dst := some 80, op := Go.Op.load 3 (Go.Operand.tmp 79), type := 3, pos := "law.go:66", after := #[{ on := 14, ground := Go.Ground.data }], guard := none }, { dst := some 81, op := Go.Op.call { callee := Go.Callee.value (Go.Operand.func 16), args := #[Go.Operand.tmp 73, Go.Operand.tmp 80], argTypes := #[32, 3] }, type := 9, pos := "law.go:66", after := #[{ on := 8, ground := Go.Ground.data }, { on := 15, ground := Go.Ground.data }], guard := none }, { dst := some 82, op := Go.Op.binOp Go.BinOp.add 9 (Go.Operand.tmp 72) (Go.Operand.tmp 81) 9, type := 9, pos := "law.go:66", after := #[{ on := 7, ground := Go.Ground.data }, { on := 16, ground := Go.Ground.data }], guard := none }, { dst := some 83, op := Go.Op.binOp Go.BinOp.add 9 (Go.Operand.tmp 65) (Go.Operand.tmp 82) 9, type := 9, pos := "law.go:66", after := #[{ on := 0, ground := Go.Ground.data }, { on := 17, ground := Go.Ground.data }], guard := none }, { dst := some 10, op := Go.Op.assign (Go.Operand.tmp 83), type := 9, pos := "law.go:66", after := #[{ on := 18, ground := Go.Ground.data }, { on := 16, ground := Go.Ground.chain }, { on := 0, ground := Go.Ground.phase }, { on := 1, ground := Go.Ground.phase }, { on := 2, ground := Go.Ground.phase }, { on := 3, ground := Go.Ground.phase }, { on := 4, ground := Go.Ground.phase }, { on := 5, ground := Go.Ground.phase }, { on := 6, ground := Go.Ground.phase }, { on := 7, ground := Go.Ground.phase }, { on := 8, ground := Go.Ground.phase }, { on := 9, ground := Go.Ground.phase }, { on := 10, ground := Go.Ground.phase }, { on := 11, ground := Go.Ground.phase }, { on := 12, ground := Go.Ground.phase }, { on := 13, ground := Go.Ground.phase }, { on := 14, ground := Go.Ground.phase }, { on := 15, ground := Go.Ground.phase }, { on := 16, ground := Go.Ground.phase }, { on := 17, ground := Go.Ground.phase }, { on := 18, ground := Go.Ground.phase }], guard := none }] true).wp Tryd.prog Q { tmps := List.toArray (t0 :: t1 :: t2 :: t3 :: t4 :: t5 :: .pointer (some ⟨B, 0, none⟩) :: t7 :: t8 :: t9 :: .string z :: t11 :: .int .i64 (j : Int) :: .int .u64 (x : Int) :: t14 :: t15 :: t16 :: t17 :: t18 :: t19 :: t20 :: t21 :: t22 :: t23 :: t24 :: t25 :: t26 :: t27 :: t28 :: t29 :: t30 :: t31 :: t32 :: t33 :: t34 :: t35 :: t36 :: t37 :: t38 :: t39 :: t40 :: t41 :: t42 :: t43 :: t44 :: t45 :: t46 :: t47 :: t48 :: t49 :: t50 :: t51 :: t52 :: t53 :: t54 :: t55 :: t56 :: t57 :: t58 :: t59 :: t60 :: t61 :: t62 :: t63 :: t64 :: t65 :: t66 :: t67 :: t68 :: t69 :: t70 :: t71 :: t72 :: t73 :: t74 :: t75 :: t76 :: t77 :: t78 :: t79 :: t80 :: t81 :: t82 :: t83 :: t84 :: t85 :: t86 :: t87 :: t88 :: t89 :: t90 :: t91 :: t92 :: t93 :: t94 :: t95 :: t96 :: t97 :: t98 :: []), defers := [] } w := by
  have hlen := digB_len 10 (by omega) x 64 (by omega)
  obtain ⟨y, hy⟩ : ∃ y : ByteArray, y = ⟨(digB 10 x).toArray⟩ := ⟨_, rfl⟩
  have hys : y.size ≤ 65 := by
    rw [hy, mk_size]
    omega
  have hps : (pfxB 0).size ≤ 2 := by decide
  have hs1 : (pfxB 0 ++ y).size ≤ 70 := sz_cat _ _ 2 65 70 hps hys (by omega)
  have hs2 : (pfxB 0 ++ y ++ ⟨#[46]⟩).size ≤ 80 := sz_cat _ _ 70 1 80 hs1 (by decide) (by omega)
  have HY := Lib.hid hy
  have HQ := Aside0.mk hQ
  clear hQ
  rw [← hy] at HQ
  clear hy hlen
  have hbt : (bv : Int).tmod 3 = 0 := by rw [Int.tmod_eq_emod_of_nonneg (by omega)]; exact hbm
  have hj0 : (0 : Int) ≤ (j : Int) := by omega
  have hj1 : (j : Int) < 4 := by omega
  refine wp_region_noPanic ?_
  refine wp_region_held_drew (S := fun W => Below w.drew.heap.size w.drew W) (by kernel_rfl) (Below.refl _ _) (fun _ => ?_)
  have HW0 : Aside0 (Below w.heap.size w w.drew) := ⟨⟨rfl, rfl, rfl, Nat.le_refl _, fun _ _ => rfl⟩⟩
  have cB0 : w.drew.cell? ⟨B, j, none⟩ = some (.int .u8 (bv : Int)) := hc
  have hB0 : B < w.drew.heap.size := hB
  generalize w.drew = W0 at *
  refine wpAnyH_take (i := 0) (oi := { dst := some 65, op := Go.Op.move (Go.Operand.tmp 10), type := 9, pos := "law.go:66", after := #[], guard := none }) (v := ?_) rfl (by kernel_rfl) (by kernel_rfl) (by kernel_rfl) (fun _ _ _ h => h) (Or.inl ⟨by rfl, ?_⟩) (Below.refl _ _) ?_
  rotate_left
  · intro W hW
    clear hW
    go_simp
    all_goals with_reducible rfl
  try simp only [Act.put, List.setIfInBounds_toArray, List.set_cons_zero, List.set_cons_succ]
  refine wpAnyH_take (i := 2) (oi := { dst := some 67, op := Go.Op.move (Go.Operand.tmp 12), type := 3, pos := "law.go:66", after := #[], guard := none }) (v := ?_) rfl (by kernel_rfl) (by kernel_rfl) (by kernel_rfl) (fun _ _ _ h => h) (Or.inl ⟨by rfl, ?_⟩) (Below.refl _ _) ?_
  rotate_left
  · intro W hW
    clear hW
    go_simp
    all_goals with_reducible rfl
  try simp only [Act.put, List.setIfInBounds_toArray, List.set_cons_zero, List.set_cons_succ]
  refine wpAnyH_take (i := 3) (oi := { dst := some 68, op := Go.Op.indexAddr 31 (Go.Operand.tmp 6) (Go.Operand.tmp 67), type := 0, pos := "law.go:66", after := #[{ on := 2, ground := Go.Ground.data }], guard := none }) (v := ?_) rfl (by kernel_rfl) (by kernel_rfl) (by kernel_rfl) (fun _ _ _ h => h) (Or.inl ⟨by rfl, ?_⟩) (Below.refl _ _) ?_
  rotate_left
  · intro W hW
    clear hW
    go_simp
    all_goals with_reducible rfl
  try simp only [Act.put, List.setIfInBounds_toArray, List.set_cons_zero, List.set_cons_succ]
  refine wpAnyH_take (i := 4) (oi := { dst := some 69, op := Go.Op.load 5 (Go.Operand.tmp 68), type := 5, pos := "law.go:66", after := #[{ on := 3, ground := Go.Ground.data }], guard := none }) (v := ?_) rfl (by kernel_rfl) (by kernel_rfl) (by kernel_rfl) (fun _ _ _ h => h) (Or.inl ⟨by rfl, ?_⟩) (Below.refl _ _) ?_
  rotate_left
  · intro W hW
    have hld := (Below.cell hW hB0).trans cB0
    clear hW
    go_simp
    all_goals with_reducible rfl
  try simp only [Act.put, List.setIfInBounds_toArray, List.set_cons_zero, List.set_cons_succ]
  refine wpAnyH_take (i := 5) (oi := { dst := some 70, op := Go.Op.binOp Go.BinOp.rem 5 (Go.Operand.tmp 69) (Go.Operand.const (Go.Value.int Go.IntKind.u8 3)) 5, type := 5, pos := "law.go:66", after := #[{ on := 4, ground := Go.Ground.data }], guard := none }) (v := ?_) rfl (by kernel_rfl) (by kernel_rfl) (by kernel_rfl) (fun _ _ _ h => h) (Or.inl ⟨by rfl, ?_⟩) (Below.refl _ _) ?_
  rotate_left
  · intro W hW
    clear hW
    go_simp
    all_goals with_reducible rfl
  try simp only [Act.put, List.setIfInBounds_toArray, List.set_cons_zero, List.set_cons_succ]
  refine wpAnyH_take (i := 8) (oi := { dst := some 73, op := Go.Op.move (Go.Operand.tmp 13), type := 32, pos := "law.go:66", after := #[], guard := none }) (v := ?_) rfl (by kernel_rfl) (by kernel_rfl) (by kernel_rfl) (fun _ _ _ h => h) (Or.inl ⟨by rfl, ?_⟩) (Below.refl _ _) ?_
  rotate_left
  · intro W hW
    clear hW
    go_simp
    all_goals with_reducible rfl
  try simp only [Act.put, List.setIfInBounds_toArray, List.set_cons_zero, List.set_cons_succ]
  refine wpAnyH_take (i := 10) (oi := { dst := some 75, op := Go.Op.move (Go.Operand.tmp 12), type := 3, pos := "law.go:66", after := #[], guard := none }) (v := ?_) rfl (by kernel_rfl) (by kernel_rfl) (by kernel_rfl) (fun _ _ _ h => h) (Or.inl ⟨by rfl, ?_⟩) (Below.refl _ _) ?_
  rotate_left
  · intro W hW
    clear hW
    go_simp
    all_goals with_reducible rfl
  try simp only [Act.put, List.setIfInBounds_toArray, List.set_cons_zero, List.set_cons_succ]
  refine wpAnyH_take (i := 11) (oi := { dst := some 76, op := Go.Op.indexAddr 31 (Go.Operand.tmp 6) (Go.Operand.tmp 75), type := 0, pos := "law.go:66", after := #[{ on := 10, ground := Go.Ground.data }], guard := none }) (v := ?_) rfl (by kernel_rfl) (by kernel_rfl) (by kernel_rfl) (fun _ _ _ h => h) (Or.inl ⟨by rfl, ?_⟩) (Below.refl _ _) ?_
  rotate_left
  · intro W hW
    clear hW
    go_simp
    all_goals with_reducible rfl
  try simp only [Act.put, List.setIfInBounds_toArray, List.set_cons_zero, List.set_cons_succ]
  refine wpAnyH_take (i := 12) (oi := { dst := some 77, op := Go.Op.load 5 (Go.Operand.tmp 76), type := 5, pos := "law.go:66", after := #[{ on := 11, ground := Go.Ground.data }], guard := none }) (v := ?_) rfl (by kernel_rfl) (by kernel_rfl) (by kernel_rfl) (fun _ _ _ h => h) (Or.inl ⟨by rfl, ?_⟩) (Below.refl _ _) ?_
  rotate_left
  · intro W hW
    have hld := (Below.cell hW hB0).trans cB0
    clear hW
    go_simp
    all_goals with_reducible rfl
  try simp only [Act.put, List.setIfInBounds_toArray, List.set_cons_zero, List.set_cons_succ]
  refine wpAnyH_take (i := 13) (oi := { dst := some 78, op := Go.Op.binOp Go.BinOp.rem 5 (Go.Operand.tmp 77) (Go.Operand.const (Go.Value.int Go.IntKind.u8 3)) 5, type := 5, pos := "law.go:66", after := #[{ on := 12, ground := Go.Ground.data }], guard := none }) (v := ?_) rfl (by kernel_rfl) (by kernel_rfl) (by kernel_rfl) (fun _ _ _ h => h) (Or.inl ⟨by rfl, ?_⟩) (Below.refl _ _) ?_
  rotate_left
  · intro W hW
    clear hW
    go_simp
    all_goals with_reducible rfl
  try simp only [Act.put, List.setIfInBounds_toArray, List.set_cons_zero, List.set_cons_succ]
  refine wpAnyH_ready (rs := [1, 9]) (by kernel_rfl) (by simp) ?_
  refine AllReadyH.cons (o := { dst := some 66, op := Go.Op.buildSlice 33 3 #[(0, Go.Operand.const (Go.Value.string { data := #[] })), (1, Go.Operand.const (Go.Value.string { data := #[48] })), (2, Go.Operand.const (Go.Value.string { data := #[48, 120] }))], type := 33, pos := "law.go:66", after := #[], guard := none }) rfl (fun K hK => ?_) ?_
  · go_simp
    refine hK.out _ _ ((Below.refl _ _).alloc (Nat.le_refl _) _) (fun _ => ?_)
    clear hK K
    try simp only [Act.put, List.setIfInBounds_toArray, List.set_cons_zero, List.set_cons_succ]
    refine wpAnyH_move ((Below.refl _ _).alloc (Nat.le_refl _) _) ?_
    obtain ⟨W1, hW⟩ : ∃ W', W' = W0.alloc (.cells #[Go.Value.string { data := #[] }, Go.Value.string { data := #[48] }, Go.Value.string { data := #[48, 120] }] 9) := ⟨_, rfl⟩
    rw [← hW]
    have cS1 : W1.cell? ⟨W0.heap.size, 0, none⟩ = some (.string (pfxB 0)) := by rw [hW, World.cell?_alloc_new]; rfl
    have hS1 : W0.heap.size < W1.heap.size := by rw [hW]; simp
    have hk : Below W0.heap.size W0 W1 := by rw [hW]; exact (Below.refl _ _).alloc (Nat.le_refl _) _
    clear hW
    have HW1 := Aside0.mk (below_then HW0.out HW0.out.size hk)
    have cB1 := (hk.cell hB0).trans cB0
    have hB1 := Nat.lt_of_lt_of_le hB0 hk.size
    clear hk
    clear cB0
    refine wpAnyH_take (i := 6) (oi := { dst := some 71, op := Go.Op.indexAddr 33 (Go.Operand.tmp 66) (Go.Operand.tmp 70), type := 0, pos := "law.go:66", after := #[{ on := 1, ground := Go.Ground.data }, { on := 5, ground := Go.Ground.data }], guard := none }) (v := ?_) rfl (by kernel_rfl) (by kernel_rfl) (by kernel_rfl) (fun _ _ _ h => h) (Or.inl ⟨by rfl, ?_⟩) (Below.refl _ _) ?_
    rotate_left
    · intro W hW
      clear hW
      go_simp
      all_goals with_reducible rfl
    try simp only [Act.put, List.setIfInBounds_toArray, List.set_cons_zero, List.set_cons_succ]
    refine wpAnyH_take (i := 7) (oi := { dst := some 72, op := Go.Op.load 9 (Go.Operand.tmp 71), type := 9, pos := "law.go:66", after := #[{ on := 6, ground := Go.Ground.data }], guard := none }) (v := ?_) rfl (by kernel_rfl) (by kernel_rfl) (by kernel_rfl) (fun _ _ _ h => h) (Or.inl ⟨by rfl, ?_⟩) (Below.refl _ _) ?_
    rotate_left
    · intro W hW
      have hld := (Below.cell hW hS1).trans cS1
      clear hW
      go_simp
      all_goals with_reducible rfl
    try simp only [Act.put, List.setIfInBounds_toArray, List.set_cons_zero, List.set_cons_succ]
    refine wpAnyH_ready (rs := [9]) (by kernel_rfl) (by simp) ?_
    refine AllReadyH.cons (o := { dst := some 74, op := Go.Op.buildSlice 35 3 #[(0, Go.Operand.const (Go.Value.int Go.IntKind.i64 10)), (1, Go.Operand.const (Go.Value.int Go.IntKind.i64 8)), (2, Go.Operand.const (Go.Value.int Go.IntKind.i64 16))], type := 35, pos := "law.go:66", after := #[], guard := none }) rfl (fun K hK => ?_) ?_
    · go_simp
      refine hK.out _ _ ((Below.refl _ _).alloc (Nat.le_refl _) _) (fun _ => ?_)
      clear hK K
      try simp only [Act.put, List.setIfInBounds_toArray, List.set_cons_zero, List.set_cons_succ]
      refine wpAnyH_move ((Below.refl _ _).alloc (Nat.le_refl _) _) ?_
      obtain ⟨W2, hW⟩ : ∃ W', W' = W1.alloc (.cells #[Go.Value.int Go.IntKind.i64 10, Go.Value.int Go.IntKind.i64 8, Go.Value.int Go.IntKind.i64 16] 3) := ⟨_, rfl⟩
      rw [← hW]
      have cI2 : W2.cell? ⟨W1.heap.size, 0, none⟩ = some (.int .i64 10) := by rw [hW, World.cell?_alloc_new]; rfl
      have hI2 : W1.heap.size < W2.heap.size := by rw [hW]; simp
      have hk : Below W1.heap.size W1 W2 := by rw [hW]; exact (Below.refl _ _).alloc (Nat.le_refl _) _
      clear hW
      have HW2 := Aside0.mk (below_then HW1.out HW1.out.size hk)
      have cB2 := (hk.cell hB1).trans cB1
      have hB2 := Nat.lt_of_lt_of_le hB1 hk.size
      have cS2 := (hk.cell hS1).trans cS1
      have hS2 := Nat.lt_of_lt_of_le hS1 hk.size
      clear hk
      clear cB1 cS1
      refine wpAnyH_take (i := 14) (oi := { dst := some 79, op := Go.Op.indexAddr 35 (Go.Operand.tmp 74) (Go.Operand.tmp 78), type := 0, pos := "law.go:66", after := #[{ on := 9, ground := Go.Ground.data }, { on := 13, ground := Go.Ground.data }], guard := none }) (v := ?_) rfl (by kernel_rfl) (by kernel_rfl) (by kernel_rfl) (fun _ _ _ h => h) (Or.inl ⟨by rfl, ?_⟩) (Below.refl _ _) ?_
      rotate_left
      · intro W hW
        clear hW
        go_simp
        all_goals with_reducible rfl
      try simp only [Act.put, List.setIfInBounds_toArray, List.set_cons_zero, List.set_cons_succ]
      refine wpAnyH_take (i := 15) (oi := { dst := some 80, op := Go.Op.load 3 (Go.Operand.tmp 79), type := 3, pos := "law.go:66", after := #[{ on := 14, ground := Go.Ground.data }], guard := none }) (v := ?_) rfl (by kernel_rfl) (by kernel_rfl) (by kernel_rfl) (fun _ _ _ h => h) (Or.inl ⟨by rfl, ?_⟩) (Below.refl _ _) ?_
      rotate_left
      · intro W hW
        have hld := (Below.cell hW hI2).trans cI2
        clear hW
        go_simp
        all_goals with_reducible rfl
      try simp only [Act.put, List.setIfInBounds_toArray, List.set_cons_zero, List.set_cons_succ]
      refine wpAnyH_ready (rs := [16]) (by kernel_rfl) (by simp) ?_
      refine AllReadyH.cons (o := { dst := some 81, op := Go.Op.call { callee := Go.Callee.value (Go.Operand.func 16), args := #[Go.Operand.tmp 73, Go.Operand.tmp 80], argTypes := #[32, 3] }, type := 9, pos := "law.go:66", after := #[{ on := 8, ground := Go.Ground.data }, { on := 15, ground := Go.Ground.data }], guard := none }) rfl (fun K hK => ?_) ?_
      · go_simp
        refine (FormatUint_calls 10 (by omega) x hx W2 (hP.out.stays HW2.out) (hT.out.stays HW2.out)).mono ?_
        rintro e W3 ⟨rfl, hk⟩
        rw [← HY.out]
        refine hK.out _ _ hk (fun _ => ?_)
        clear hK K
        try simp only [Act.put, List.setIfInBounds_toArray, List.set_cons_zero, List.set_cons_succ]
        refine wpAnyH_move hk ?_
        have HW3 := Aside0.mk (below_then HW2.out HW2.out.size hk)
        have cB3 := (hk.cell hB2).trans cB2
        have hB3 := Nat.lt_of_lt_of_le hB2 hk.size
        have cI3 := (hk.cell hI2).trans cI2
        have hI3 := Nat.lt_of_lt_of_le hI2 hk.size
        have cS3 := (hk.cell hS2).trans cS2
        have hS3 := Nat.lt_of_lt_of_le hS2 hk.size
        clear hk
        clear cB2 cI2 cS2
        refine wpAnyH_ready (rs := [17]) (by kernel_rfl) (by simp) ?_
        refine AllReadyH.cons (o := { dst := some 82, op := Go.Op.binOp Go.BinOp.add 9 (Go.Operand.tmp 72) (Go.Operand.tmp 81) 9, type := 9, pos := "law.go:66", after := #[{ on := 7, ground := Go.Ground.data }, { on := 16, ground := Go.Ground.data }], guard := none }) rfl (fun K hK => ?_) ?_
        · go_simp
          go_wp2_with fail
          refine hK.out _ _ (Below.refl _ _) (fun _ => ?_)
          clear hK K
          try simp only [Act.put, List.setIfInBounds_toArray, List.set_cons_zero, List.set_cons_succ]
          refine wpAnyH_ready (rs := [18]) (by kernel_rfl) (by simp) ?_
          refine AllReadyH.cons (o := { dst := some 83, op := Go.Op.binOp Go.BinOp.add 9 (Go.Operand.tmp 65) (Go.Operand.tmp 82) 9, type := 9, pos := "law.go:66", after := #[{ on := 0, ground := Go.Ground.data }, { on := 17, ground := Go.Ground.data }], guard := none }) rfl (fun K hK => ?_) ?_
          · go_simp
            go_wp2_with fail
            refine hK.out _ _ (Below.refl _ _) (fun _ => ?_)
            clear hK K
            try simp only [Act.put, List.setIfInBounds_toArray, List.set_cons_zero, List.set_cons_succ]
            refine wpAnyH_ready (rs := [19]) (by kernel_rfl) (by simp) ?_
            refine AllReadyH.cons (o := { dst := some 10, op := Go.Op.assign (Go.Operand.tmp 83), type := 9, pos := "law.go:66", after := #[{ on := 18, ground := Go.Ground.data }, { on := 16, ground := Go.Ground.chain }, { on := 0, ground := Go.Ground.phase }, { on := 1, ground := Go.Ground.phase }, { on := 2, ground := Go.Ground.phase }, { on := 3, ground := Go.Ground.phase }, { on := 4, ground := Go.Ground.phase }, { on := 5, ground := Go.Ground.phase }, { on := 6, ground := Go.Ground.phase }, { on := 7, ground := Go.Ground.phase }, { on := 8, ground := Go.Ground.phase }, { on := 9, ground := Go.Ground.phase }, { on := 10, ground := Go.Ground.phase }, { on := 11, ground := Go.Ground.phase }, { on := 12, ground := Go.Ground.phase }, { on := 13, ground := Go.Ground.phase }, { on := 14, ground := Go.Ground.phase }, { on := 15, ground := Go.Ground.phase }, { on := 16, ground := Go.Ground.phase }, { on := 17, ground := Go.Ground.phase }, { on := 18, ground := Go.Ground.phase }], guard := none }) rfl (fun K hK => ?_) ?_
            · go_simp
              refine hK.out _ _ (Below.refl _ _) (fun _ => ?_)
              clear hK K
              try simp only [Act.put, List.setIfInBounds_toArray, List.set_cons_zero, List.set_cons_succ]
              refine wpAnyH_done (by kernel_rfl) ?_ _
              exact HQ.out _ _ _ _ _ _ _ _ _ _ _ _ _ _ _ _ _ _ _ W3 HW3.out
            exact AllReadyH.nil
          exact AllReadyH.nil
        exact AllReadyH.nil
      exact AllReadyH.nil
    exact AllReadyH.nil
  refine AllReadyH.cons (o := { dst := some 74, op := Go.Op.buildSlice 35 3 #[(0, Go.Operand.const (Go.Value.int Go.IntKind.i64 10)), (1, Go.Operand.const (Go.Value.int Go.IntKind.i64 8)), (2, Go.Operand.const (Go.Value.int Go.IntKind.i64 16))], type := 35, pos := "law.go:66", after := #[], guard := none }) rfl (fun K hK => ?_) ?_
  · go_simp
    refine hK.out _ _ ((Below.refl _ _).alloc (Nat.le_refl _) _) (fun _ => ?_)
    clear hK K
    try simp only [Act.put, List.setIfInBounds_toArray, List.set_cons_zero, List.set_cons_succ]
    refine wpAnyH_move ((Below.refl _ _).alloc (Nat.le_refl _) _) ?_
    obtain ⟨W1, hW⟩ : ∃ W', W' = W0.alloc (.cells #[Go.Value.int Go.IntKind.i64 10, Go.Value.int Go.IntKind.i64 8, Go.Value.int Go.IntKind.i64 16] 3) := ⟨_, rfl⟩
    rw [← hW]
    have cI1 : W1.cell? ⟨W0.heap.size, 0, none⟩ = some (.int .i64 10) := by rw [hW, World.cell?_alloc_new]; rfl
    have hI1 : W0.heap.size < W1.heap.size := by rw [hW]; simp
    have hk : Below W0.heap.size W0 W1 := by rw [hW]; exact (Below.refl _ _).alloc (Nat.le_refl _) _
    clear hW
    have HW1 := Aside0.mk (below_then HW0.out HW0.out.size hk)
    have cB1 := (hk.cell hB0).trans cB0
    have hB1 := Nat.lt_of_lt_of_le hB0 hk.size
    clear hk
    clear cB0
    refine wpAnyH_take (i := 14) (oi := { dst := some 79, op := Go.Op.indexAddr 35 (Go.Operand.tmp 74) (Go.Operand.tmp 78), type := 0, pos := "law.go:66", after := #[{ on := 9, ground := Go.Ground.data }, { on := 13, ground := Go.Ground.data }], guard := none }) (v := ?_) rfl (by kernel_rfl) (by kernel_rfl) (by kernel_rfl) (fun _ _ _ h => h) (Or.inl ⟨by rfl, ?_⟩) (Below.refl _ _) ?_
    rotate_left
    · intro W hW
      clear hW
      go_simp
      all_goals with_reducible rfl
    try simp only [Act.put, List.setIfInBounds_toArray, List.set_cons_zero, List.set_cons_succ]
    refine wpAnyH_take (i := 15) (oi := { dst := some 80, op := Go.Op.load 3 (Go.Operand.tmp 79), type := 3, pos := "law.go:66", after := #[{ on := 14, ground := Go.Ground.data }], guard := none }) (v := ?_) rfl (by kernel_rfl) (by kernel_rfl) (by kernel_rfl) (fun _ _ _ h => h) (Or.inl ⟨by rfl, ?_⟩) (Below.refl _ _) ?_
    rotate_left
    · intro W hW
      have hld := (Below.cell hW hI1).trans cI1
      clear hW
      go_simp
      all_goals with_reducible rfl
    try simp only [Act.put, List.setIfInBounds_toArray, List.set_cons_zero, List.set_cons_succ]
    refine wpAnyH_ready (rs := [1, 16]) (by kernel_rfl) (by simp) ?_
    refine AllReadyH.cons (o := { dst := some 66, op := Go.Op.buildSlice 33 3 #[(0, Go.Operand.const (Go.Value.string { data := #[] })), (1, Go.Operand.const (Go.Value.string { data := #[48] })), (2, Go.Operand.const (Go.Value.string { data := #[48, 120] }))], type := 33, pos := "law.go:66", after := #[], guard := none }) rfl (fun K hK => ?_) ?_
    · go_simp
      refine hK.out _ _ ((Below.refl _ _).alloc (Nat.le_refl _) _) (fun _ => ?_)
      clear hK K
      try simp only [Act.put, List.setIfInBounds_toArray, List.set_cons_zero, List.set_cons_succ]
      refine wpAnyH_move ((Below.refl _ _).alloc (Nat.le_refl _) _) ?_
      obtain ⟨W2, hW⟩ : ∃ W', W' = W1.alloc (.cells #[Go.Value.string { data := #[] }, Go.Value.string { data := #[48] }, Go.Value.string { data := #[48, 120] }] 9) := ⟨_, rfl⟩
      rw [← hW]
      have cS2 : W2.cell? ⟨W1.heap.size, 0, none⟩ = some (.string (pfxB 0)) := by rw [hW, World.cell?_alloc_new]; rfl
      have hS2 : W1.heap.size < W2.heap.size := by rw [hW]; simp
      have hk : Below W1.heap.size W1 W2 := by rw [hW]; exact (Below.refl _ _).alloc (Nat.le_refl _) _
      clear hW
      have HW2 := Aside0.mk (below_then HW1.out HW1.out.size hk)
      have cB2 := (hk.cell hB1).trans cB1
      have hB2 := Nat.lt_of_lt_of_le hB1 hk.size
      have cI2 := (hk.cell hI1).trans cI1
      have hI2 := Nat.lt_of_lt_of_le hI1 hk.size
      clear hk
      clear cB1 cI1
      refine wpAnyH_take (i := 6) (oi := { dst := some 71, op := Go.Op.indexAddr 33 (Go.Operand.tmp 66) (Go.Operand.tmp 70), type := 0, pos := "law.go:66", after := #[{ on := 1, ground := Go.Ground.data }, { on := 5, ground := Go.Ground.data }], guard := none }) (v := ?_) rfl (by kernel_rfl) (by kernel_rfl) (by kernel_rfl) (fun _ _ _ h => h) (Or.inl ⟨by rfl, ?_⟩) (Below.refl _ _) ?_
      rotate_left
      · intro W hW
        clear hW
        go_simp
        all_goals with_reducible rfl
      try simp only [Act.put, List.setIfInBounds_toArray, List.set_cons_zero, List.set_cons_succ]
      refine wpAnyH_take (i := 7) (oi := { dst := some 72, op := Go.Op.load 9 (Go.Operand.tmp 71), type := 9, pos := "law.go:66", after := #[{ on := 6, ground := Go.Ground.data }], guard := none }) (v := ?_) rfl (by kernel_rfl) (by kernel_rfl) (by kernel_rfl) (fun _ _ _ h => h) (Or.inl ⟨by rfl, ?_⟩) (Below.refl _ _) ?_
      rotate_left
      · intro W hW
        have hld := (Below.cell hW hS2).trans cS2
        clear hW
        go_simp
        all_goals with_reducible rfl
      try simp only [Act.put, List.setIfInBounds_toArray, List.set_cons_zero, List.set_cons_succ]
      refine wpAnyH_ready (rs := [16]) (by kernel_rfl) (by simp) ?_
      refine AllReadyH.cons (o := { dst := some 81, op := Go.Op.call { callee := Go.Callee.value (Go.Operand.func 16), args := #[Go.Operand.tmp 73, Go.Operand.tmp 80], argTypes := #[32, 3] }, type := 9, pos := "law.go:66", after := #[{ on := 8, ground := Go.Ground.data }, { on := 15, ground := Go.Ground.data }], guard := none }) rfl (fun K hK => ?_) ?_
      · go_simp
        refine (FormatUint_calls 10 (by omega) x hx W2 (hP.out.stays HW2.out) (hT.out.stays HW2.out)).mono ?_
        rintro e W3 ⟨rfl, hk⟩
        rw [← HY.out]
        refine hK.out _ _ hk (fun _ => ?_)
        clear hK K
        try simp only [Act.put, List.setIfInBounds_toArray, List.set_cons_zero, List.set_cons_succ]
        refine wpAnyH_move hk ?_
        have HW3 := Aside0.mk (below_then HW2.out HW2.out.size hk)
        have cB3 := (hk.cell hB2).trans cB2
        have hB3 := Nat.lt_of_lt_of_le hB2 hk.size
        have cI3 := (hk.cell hI2).trans cI2
        have hI3 := Nat.lt_of_lt_of_le hI2 hk.size
        have cS3 := (hk.cell hS2).trans cS2
        have hS3 := Nat.lt_of_lt_of_le hS2 hk.size
        clear hk
        clear cB2 cI2 cS2
        refine wpAnyH_ready (rs := [17]) (by kernel_rfl) (by simp) ?_
        refine AllReadyH.cons (o := { dst := some 82, op := Go.Op.binOp Go.BinOp.add 9 (Go.Operand.tmp 72) (Go.Operand.tmp 81) 9, type := 9, pos := "law.go:66", after := #[{ on := 7, ground := Go.Ground.data }, { on := 16, ground := Go.Ground.data }], guard := none }) rfl (fun K hK => ?_) ?_
        · go_simp
          go_wp2_with fail
          refine hK.out _ _ (Below.refl _ _) (fun _ => ?_)
          clear hK K
          try simp only [Act.put, List.setIfInBounds_toArray, List.set_cons_zero, List.set_cons_succ]
          refine wpAnyH_ready (rs := [18]) (by kernel_rfl) (by simp) ?_
          refine AllReadyH.cons (o := { dst := some 83, op := Go.Op.binOp Go.BinOp.add 9 (Go.Operand.tmp 65) (Go.Operand.tmp 82) 9, type := 9, pos := "law.go:66", after := #[{ on := 0, ground := Go.Ground.data }, { on := 17, ground := Go.Ground.data }], guard := none }) rfl (fun K hK => ?_) ?_
          · go_simp
            go_wp2_with fail
            refine hK.out _ _ (Below.refl _ _) (fun _ => ?_)
            clear hK K
            try simp only [Act.put, List.setIfInBounds_toArray, List.set_cons_zero, List.set_cons_succ]
            refine wpAnyH_ready (rs := [19]) (by kernel_rfl) (by simp) ?_
            refine AllReadyH.cons (o := { dst := some 10, op := Go.Op.assign (Go.Operand.tmp 83), type := 9, pos := "law.go:66", after := #[{ on := 18, ground := Go.Ground.data }, { on := 16, ground := Go.Ground.chain }, { on := 0, ground := Go.Ground.phase }, { on := 1, ground := Go.Ground.phase }, { on := 2, ground := Go.Ground.phase }, { on := 3, ground := Go.Ground.phase }, { on := 4, ground := Go.Ground.phase }, { on := 5, ground := Go.Ground.phase }, { on := 6, ground := Go.Ground.phase }, { on := 7, ground := Go.Ground.phase }, { on := 8, ground := Go.Ground.phase }, { on := 9, ground := Go.Ground.phase }, { on := 10, ground := Go.Ground.phase }, { on := 11, ground := Go.Ground.phase }, { on := 12, ground := Go.Ground.phase }, { on := 13, ground := Go.Ground.phase }, { on := 14, ground := Go.Ground.phase }, { on := 15, ground := Go.Ground.phase }, { on := 16, ground := Go.Ground.phase }, { on := 17, ground := Go.Ground.phase }, { on := 18, ground := Go.Ground.phase }], guard := none }) rfl (fun K hK => ?_) ?_
            · go_simp
              refine hK.out _ _ (Below.refl _ _) (fun _ => ?_)
              clear hK K
              try simp only [Act.put, List.setIfInBounds_toArray, List.set_cons_zero, List.set_cons_succ]
              refine wpAnyH_done (by kernel_rfl) ?_ _
              exact HQ.out _ _ _ _ _ _ _ _ _ _ _ _ _ _ _ _ _ _ _ W3 HW3.out
            exact AllReadyH.nil
          exact AllReadyH.nil
        exact AllReadyH.nil
      exact AllReadyH.nil
    refine AllReadyH.cons (o := { dst := some 81, op := Go.Op.call { callee := Go.Callee.value (Go.Operand.func 16), args := #[Go.Operand.tmp 73, Go.Operand.tmp 80], argTypes := #[32, 3] }, type := 9, pos := "law.go:66", after := #[{ on := 8, ground := Go.Ground.data }, { on := 15, ground := Go.Ground.data }], guard := none }) rfl (fun K hK => ?_) ?_
    · go_simp
      refine (FormatUint_calls 10 (by omega) x hx W1 (hP.out.stays HW1.out) (hT.out.stays HW1.out)).mono ?_
      rintro e W2 ⟨rfl, hk⟩
      rw [← HY.out]
      refine hK.out _ _ hk (fun _ => ?_)
      clear hK K
      try simp only [Act.put, List.setIfInBounds_toArray, List.set_cons_zero, List.set_cons_succ]
      refine wpAnyH_move hk ?_
      have HW2 := Aside0.mk (below_then HW1.out HW1.out.size hk)
      have cB2 := (hk.cell hB1).trans cB1
      have hB2 := Nat.lt_of_lt_of_le hB1 hk.size
      have cI2 := (hk.cell hI1).trans cI1
      have hI2 := Nat.lt_of_lt_of_le hI1 hk.size
      clear hk
      clear cB1 cI1
      refine wpAnyH_ready (rs := [1]) (by kernel_rfl) (by simp) ?_
      refine AllReadyH.cons (o := { dst := some 66, op := Go.Op.buildSlice 33 3 #[(0, Go.Operand.const (Go.Value.string { data := #[] })), (1, Go.Operand.const (Go.Value.string { data := #[48] })), (2, Go.Operand.const (Go.Value.string { data := #[48, 120] }))], type := 33, pos := "law.go:66", after := #[], guard := none }) rfl (fun K hK => ?_) ?_
      · go_simp
        refine hK.out _ _ ((Below.refl _ _).alloc (Nat.le_refl _) _) (fun _ => ?_)
        clear hK K
        try simp only [Act.put, List.setIfInBounds_toArray, List.set_cons_zero, List.set_cons_succ]
        refine wpAnyH_move ((Below.refl _ _).alloc (Nat.le_refl _) _) ?_
        obtain ⟨W3, hW⟩ : ∃ W', W' = W2.alloc (.cells #[Go.Value.string { data := #[] }, Go.Value.string { data := #[48] }, Go.Value.string { data := #[48, 120] }] 9) := ⟨_, rfl⟩
        rw [← hW]
        have cS3 : W3.cell? ⟨W2.heap.size, 0, none⟩ = some (.string (pfxB 0)) := by rw [hW, World.cell?_alloc_new]; rfl
        have hS3 : W2.heap.size < W3.heap.size := by rw [hW]; simp
        have hk : Below W2.heap.size W2 W3 := by rw [hW]; exact (Below.refl _ _).alloc (Nat.le_refl _) _
        clear hW
        have HW3 := Aside0.mk (below_then HW2.out HW2.out.size hk)
        have cB3 := (hk.cell hB2).trans cB2
        have hB3 := Nat.lt_of_lt_of_le hB2 hk.size
        have cI3 := (hk.cell hI2).trans cI2
        have hI3 := Nat.lt_of_lt_of_le hI2 hk.size
        clear hk
        clear cB2 cI2
        refine wpAnyH_take (i := 6) (oi := { dst := some 71, op := Go.Op.indexAddr 33 (Go.Operand.tmp 66) (Go.Operand.tmp 70), type := 0, pos := "law.go:66", after := #[{ on := 1, ground := Go.Ground.data }, { on := 5, ground := Go.Ground.data }], guard := none }) (v := ?_) rfl (by kernel_rfl) (by kernel_rfl) (by kernel_rfl) (fun _ _ _ h => h) (Or.inl ⟨by rfl, ?_⟩) (Below.refl _ _) ?_
        rotate_left
        · intro W hW
          clear hW
          go_simp
          all_goals with_reducible rfl
        try simp only [Act.put, List.setIfInBounds_toArray, List.set_cons_zero, List.set_cons_succ]
        refine wpAnyH_take (i := 7) (oi := { dst := some 72, op := Go.Op.load 9 (Go.Operand.tmp 71), type := 9, pos := "law.go:66", after := #[{ on := 6, ground := Go.Ground.data }], guard := none }) (v := ?_) rfl (by kernel_rfl) (by kernel_rfl) (by kernel_rfl) (fun _ _ _ h => h) (Or.inl ⟨by rfl, ?_⟩) (Below.refl _ _) ?_
        rotate_left
        · intro W hW
          have hld := (Below.cell hW hS3).trans cS3
          clear hW
          go_simp
          all_goals with_reducible rfl
        try simp only [Act.put, List.setIfInBounds_toArray, List.set_cons_zero, List.set_cons_succ]
        refine wpAnyH_ready (rs := [17]) (by kernel_rfl) (by simp) ?_
        refine AllReadyH.cons (o := { dst := some 82, op := Go.Op.binOp Go.BinOp.add 9 (Go.Operand.tmp 72) (Go.Operand.tmp 81) 9, type := 9, pos := "law.go:66", after := #[{ on := 7, ground := Go.Ground.data }, { on := 16, ground := Go.Ground.data }], guard := none }) rfl (fun K hK => ?_) ?_
        · go_simp
          go_wp2_with fail
          refine hK.out _ _ (Below.refl _ _) (fun _ => ?_)
          clear hK K
          try simp only [Act.put, List.setIfInBounds_toArray, List.set_cons_zero, List.set_cons_succ]
          refine wpAnyH_ready (rs := [18]) (by kernel_rfl) (by simp) ?_
          refine AllReadyH.cons (o := { dst := some 83, op := Go.Op.binOp Go.BinOp.add 9 (Go.Operand.tmp 65) (Go.Operand.tmp 82) 9, type := 9, pos := "law.go:66", after := #[{ on := 0, ground := Go.Ground.data }, { on := 17, ground := Go.Ground.data }], guard := none }) rfl (fun K hK => ?_) ?_
          · go_simp
            go_wp2_with fail
            refine hK.out _ _ (Below.refl _ _) (fun _ => ?_)
            clear hK K
            try simp only [Act.put, List.setIfInBounds_toArray, List.set_cons_zero, List.set_cons_succ]
            refine wpAnyH_ready (rs := [19]) (by kernel_rfl) (by simp) ?_
            refine AllReadyH.cons (o := { dst := some 10, op := Go.Op.assign (Go.Operand.tmp 83), type := 9, pos := "law.go:66", after := #[{ on := 18, ground := Go.Ground.data }, { on := 16, ground := Go.Ground.chain }, { on := 0, ground := Go.Ground.phase }, { on := 1, ground := Go.Ground.phase }, { on := 2, ground := Go.Ground.phase }, { on := 3, ground := Go.Ground.phase }, { on := 4, ground := Go.Ground.phase }, { on := 5, ground := Go.Ground.phase }, { on := 6, ground := Go.Ground.phase }, { on := 7, ground := Go.Ground.phase }, { on := 8, ground := Go.Ground.phase }, { on := 9, ground := Go.Ground.phase }, { on := 10, ground := Go.Ground.phase }, { on := 11, ground := Go.Ground.phase }, { on := 12, ground := Go.Ground.phase }, { on := 13, ground := Go.Ground.phase }, { on := 14, ground := Go.Ground.phase }, { on := 15, ground := Go.Ground.phase }, { on := 16, ground := Go.Ground.phase }, { on := 17, ground := Go.Ground.phase }, { on := 18, ground := Go.Ground.phase }], guard := none }) rfl (fun K hK => ?_) ?_
            · go_simp
              refine hK.out _ _ (Below.refl _ _) (fun _ => ?_)
              clear hK K
              try simp only [Act.put, List.setIfInBounds_toArray, List.set_cons_zero, List.set_cons_succ]
              refine wpAnyH_done (by kernel_rfl) ?_ _
              exact HQ.out _ _ _ _ _ _ _ _ _ _ _ _ _ _ _ _ _ _ _ W3 HW3.out
            exact AllReadyH.nil
          exact AllReadyH.nil
        exact AllReadyH.nil
      exact AllReadyH.nil
    exact AllReadyH.nil
  exact AllReadyH.nil
set_option maxHeartbeats 40000000 in
set_option maxRecDepth 100000 in
theorem short_reg13_1 {t0 t1 t2 t3 t4 t5 t7 t8 t9 t11 t14 t15 t16 t17 t18 t19 t20 t21 t22 t23 t24 t25 t26 t27 t28 t29 t30 t31 t32 t33 t34 t35 t36 t37 t38 t39 t40 t41 t42 t43 t44 t45 t46 t47 t48 t49 t50 t51 t52 t53 t54 t55 t56 t57 t58 t59 t60 t61 t62 t63 t64 t65 t66 t67 t68 t69 t70 t71 t72 t73 t74 t75 t76 t77 t78 t79 t80 t81 t82 t83 t84 t85 t86 t87 t88 t89 t90 t91 t92 t93 t94 t95 t96 t97 t98 : Value} (B j x bv : Nat) (z : ByteArray) (Q : Exit → Act → World → Prop) (w : World) (hj : j < 4) (hx : x < 18446744073709551616) (hbm : (bv : Int) % 3 = 1) (hz : z.size ≤ 400)
    (hB : B < w.heap.size) (hc : w.cell? ⟨B, j, none⟩ = some (.int .u8 (bv : Int))) (hP : Aside0 (Pows w)) (hT : Aside0 (Debr w))
    (hQ : ∀ (s65 s66 s67 s68 s69 s70 s71 s72 s73 s74 s75 s76 s77 s78 s79 s80 s81 s82 s83 : Value) (W : World), Below w.heap.size w W → Q .normal { tmps := List.toArray (t0 :: t1 :: t2 :: t3 :: t4 :: t5 :: .pointer (some ⟨B, 0, none⟩) :: t7 :: t8 :: t9 :: .string (z ++ (pfxB 1 ++ ⟨(digB 8 x).toArray⟩)) :: t11 :: .int .i64 (j : Int) :: .int .u64 (x : Int) :: t14 :: t15 :: t16 :: t17 :: t18 :: t19 :: t20 :: t21 :: t22 :: t23 :: t24 :: t25 :: t26 :: t27 :: t28 :: t29 :: t30 :: t31 :: t32 :: t33 :: t34 :: t35 :: t36 :: t37 :: t38 :: t39 :: t40 :: t41 :: t42 :: t43 :: t44 :: t45 :: t46 :: t47 :: t48 :: t49 :: t50 :: t51 :: t52 :: t53 :: t54 :: t55 :: t56 :: t57 :: t58 :: t59 :: t60 :: t61 :: t62 :: t63 :: t64 :: s65 :: s66 :: s67 :: s68 :: s69 :: s70 :: s71 :: s72 :: s73 :: s74 :: s75 :: s76 :: s77 :: s78 :: s79 :: s80 :: s81 :: s82 :: s83 :: t84 :: t85 :: t86 :: t87 :: t88 :: t89 :: t90 :: t91 :: t92 :: t93 :: t94 :: t95 :: t96 :: t97 :: t98 :: []), defers := [] } W) :
    (Code.region 13 #[{ dst := some 65, op := Go.Op.move (Go.Operand.tmp 10), type := 9, pos := "law.go:66", after := #[], guard := none }, { dst := some 66, op := Go.Op.buildSlice 33 3 #[(0, Go.Operand.const (Go.Value.string { data := #[] })), (1, Go.Operand.const (Go.Value.string { data := #[48] })), (2, Go.Operand.const (Go.Value.string { data := #[48, 120] }))], type := 33, pos := "law.go:66", after := #[], guard := none }, { dst := some 67, op := Go.Op.move (Go.Operand.tmp 12), type := 3, pos := "law.go:66", after := #[], guard := none }, { dst := some 68, op := Go.Op.indexAddr 31 (Go.Operand.tmp 6) (Go.Operand.tmp 67), type := 0, pos := "law.go:66", after := #[{ on := 2, ground := Go.Ground.data }], guard := none }, { dst := some 69, op := Go.Op.load 5 (Go.Operand.tmp 68), type := 5, pos := "law.go:66", after := #[{ on := 3, ground := Go.Ground.data }], guard := none }, { dst := some 70, op := Go.Op.binOp Go.BinOp.rem 5 (Go.Operand.tmp 69) (Go.Operand.const (Go.Value.int Go.IntKind.u8 3)) 5, type := 5, pos := "law.go:66", after := #[{ on := 4, ground := Go.Ground.data }], guard := none }, { dst := some 71, op := Go.Op.indexAddr 33 (Go.Operand.tmp 66) (Go.Operand.tmp 70), type := 0, pos := "law.go:66", after := #[{ on := 1, ground := Go.Ground.data }, { on := 5, ground := Go.Ground.data }], guard := none }, { dst := some 72, op := Go.Op.load 9 (Go.Operand.tmp 71), type := 9, pos := "law.go:66", after := #[{ on := 6, ground := Go.Ground.data }], guard := none }, { dst := some 73, op := Go.Op.move (Go.Operand.tmp 13), type := 32, pos := "law.go:66", after := #[], guard := none }, { dst := some 74, op := Go.Op.buildSlice 35 3 #[(0, Go.Operand.const (Go.Value.int Go.IntKind.i64 10)), (1, Go.Operand.const (Go.Value.int Go.IntKind.i64 8)), (2, Go.Operand.const (Go.Value.int Go.IntKind.i64 16))], type := 35, pos := "law.go:66", after := #[], guard := none }, { dst := some 75, op := Go.Op.move (Go.Operand.tmp 12), type := 3, pos := "law.go:66", after := #[], guard := none }, { dst := some 76, op := Go.Op.indexAddr 31 (Go.Operand.tmp 6) (Go.Operand.tmp 75), type := 0, pos := "law.go:66", after := #[{ on := 10, ground := Go.Ground.data }], guard := none }, { dst := some 77, op := Go.Op.load 5 (Go.Operand.tmp 76), type := 5, pos := "law.go:66", after := #[{ on := 11, ground := Go.Ground.data }], guard := none }, { dst := some 78, op := Go.Op.binOp Go.BinOp.rem 5 (Go.Operand.tmp 77) (Go.Operand.const (Go.Value.int Go.IntKind.u8 3)) 5, type := 5, pos := "law.go:66", after := #[{ on := 12, ground := Go.Ground.data }], guard := none }, { dst := some 79, op := Go.Op.indexAddr 35 (Go.Operand.tmp 74) (Go.Operand.tmp 78), type := 0, pos := "law.go:66", after := #[{ on := 9, ground := Go.Ground.data }, { on := 13, ground := Go.Ground.data }], guard := none }, { dst := some 80, op := Go.Op.load 3 (Go.Operand.tmp 79), type := 3, pos := "law.go:66", after := #[{ on := 14, ground := Go.Ground.data }], guard := none }, { dst := some 81, op := Go.Op.call { callee := Go.Callee.value (Go.Operand.func 16), args := #[Go.Operand.tmp 73, Go.Operand.tmp 80], argTypes := #[32, 3] }, type := 9, pos := "law.go:66", after := #[{ on := 8, ground := Go.Ground.data }, { on := 15, ground := Go.Ground.data }], guard := none }, { dst := some 82, op := Go.Op.binOp Go.BinOp.add 9 (Go.Operand.tmp 72) (Go.Operand.tmp 81) 9, type := 9, pos := "law.go:66", after := #[{ on := 7, ground := Go.Ground.data }, { on := 16, ground := Go.Ground.data }], guard := none }, { dst := some 83, op := Go.Op.binOp Go.BinOp.add 9 (Go.Operand.tmp 65) (Go.Operand.tmp 82) 9, type := 9, pos := "law.go:66", after := #[{ on := 0, ground := Go.Ground.data }, { on := 17, ground := Go.Ground.data }], guard := none }, { dst := some 10, op := Go.Op.assign (Go.Operand.tmp 83), type := 9, pos := "law.go:66", after := #[{ on := 18, ground := Go.Ground.data }, { on := 16, ground := Go.Ground.chain }, { on := 0, ground := Go.Ground.phase }, { on := 1, ground := Go.Ground.phase }, { on := 2, ground := Go.Ground.phase }, { on := 3, ground := Go.Ground.phase }, { on := 4, ground := Go.Ground.phase }, { on := 5, ground := Go.Ground.phase }, { on := 6, ground := Go.Ground.phase }, { on := 7, ground := Go.Ground.phase }, { on := 8, ground := Go.Ground.phase }, { on := 9, ground := Go.Ground.phase }, { on := 10, ground := Go.Ground.phase }, { on := 11, ground := Go.Ground.phase }, { on := 12, ground := Go.Ground.phase }, { on := 13, ground := Go.Ground.phase }, { on := 14, ground := Go.Ground.phase }, { on := 15, ground := Go.Ground.phase }, { on := 16, ground := Go.Ground.phase }, { on := 17, ground := Go.Ground.phase }, { on := 18, ground := Go.Ground.phase }], guard := none }] true).wp Tryd.prog Q { tmps := List.toArray (t0 :: t1 :: t2 :: t3 :: t4 :: t5 :: .pointer (some ⟨B, 0, none⟩) :: t7 :: t8 :: t9 :: .string z :: t11 :: .int .i64 (j : Int) :: .int .u64 (x : Int) :: t14 :: t15 :: t16 :: t17 :: t18 :: t19 :: t20 :: t21 :: t22 :: t23 :: t24 :: t25 :: t26 :: t27 :: t28 :: t29 :: t30 :: t31 :: t32 :: t33 :: t34 :: t35 :: t36 :: t37 :: t38 :: t39 :: t40 :: t41 :: t42 :: t43 :: t44 :: t45 :: t46 :: t47 :: t48 :: t49 :: t50 :: t51 :: t52 :: t53 :: t54 :: t55 :: t56 :: t57 :: t58 :: t59 :: t60 :: t61 :: t62 :: t63 :: t64 :: t65 :: t66 :: t67 :: t68 :: t69 :: t70 :: t71 :: t72 :: t73 :: t74 :: t75 :: t76 :: t77 :: t78 :: t79 :: t80 :: t81 :: t82 :: t83 :: t84 :: t85 :: t86 :: t87 :: t88 :: t89 :: t90 :: t91 :: t92 :: t93 :: t94 :: t95 :: t96 :: t97 :: t98 :: []), defers := [] } w := by
  have hlen := digB_len 8 (by omega) x 64 (by omega)
  obtain ⟨y, hy⟩ : ∃ y : ByteArray, y = ⟨(digB 8 x).toArray⟩ := ⟨_, rfl⟩
  have hys : y.size ≤ 65 := by
    rw [hy, mk_size]
    omega
  have hps : (pfxB 1).size ≤ 2 := by decide
  have hs1 : (pfxB 1 ++ y).size ≤ 70 := sz_cat _ _ 2 65 70 hps hys (by omega)
  have hs2 : (pfxB 1 ++ y ++ ⟨#[46]⟩).size ≤ 80 := sz_cat _ _ 70 1 80 hs1 (by decide) (by omega)
  have HY := Lib.hid hy
  have HQ := Aside0.mk hQ
  clear hQ
  rw [← hy] at HQ
  clear hy hlen
  have hbt : (bv : Int).tmod 3 = 1 := by rw [Int.tmod_eq_emod_of_nonneg (by omega)]; exact hbm
  have hj0 : (0 : Int) ≤ (j : Int) := by omega
  have hj1 : (j : Int) < 4 := by omega
  refine wp_region_noPanic ?_
  refine wp_region_held_drew (S := fun W => Below w.drew.heap.size w.drew W) (by kernel_rfl) (Below.refl _ _) (fun _ => ?_)
  have HW0 : Aside0 (Below w.heap.size w w.drew) := ⟨⟨rfl, rfl, rfl, Nat.le_refl _, fun _ _ => rfl⟩⟩
  have cB0 : w.drew.cell? ⟨B, j, none⟩ = some (.int .u8 (bv : Int)) := hc
  have hB0 : B < w.drew.heap.size := hB
  generalize w.drew = W0 at *
  refine wpAnyH_take (i := 0) (oi := { dst := some 65, op := Go.Op.move (Go.Operand.tmp 10), type := 9, pos := "law.go:66", after := #[], guard := none }) (v := ?_) rfl (by kernel_rfl) (by kernel_rfl) (by kernel_rfl) (fun _ _ _ h => h) (Or.inl ⟨by rfl, ?_⟩) (Below.refl _ _) ?_
  rotate_left
  · intro W hW
    clear hW
    go_simp
    all_goals with_reducible rfl
  try simp only [Act.put, List.setIfInBounds_toArray, List.set_cons_zero, List.set_cons_succ]
  refine wpAnyH_take (i := 2) (oi := { dst := some 67, op := Go.Op.move (Go.Operand.tmp 12), type := 3, pos := "law.go:66", after := #[], guard := none }) (v := ?_) rfl (by kernel_rfl) (by kernel_rfl) (by kernel_rfl) (fun _ _ _ h => h) (Or.inl ⟨by rfl, ?_⟩) (Below.refl _ _) ?_
  rotate_left
  · intro W hW
    clear hW
    go_simp
    all_goals with_reducible rfl
  try simp only [Act.put, List.setIfInBounds_toArray, List.set_cons_zero, List.set_cons_succ]
  refine wpAnyH_take (i := 3) (oi := { dst := some 68, op := Go.Op.indexAddr 31 (Go.Operand.tmp 6) (Go.Operand.tmp 67), type := 0, pos := "law.go:66", after := #[{ on := 2, ground := Go.Ground.data }], guard := none }) (v := ?_) rfl (by kernel_rfl) (by kernel_rfl) (by kernel_rfl) (fun _ _ _ h => h) (Or.inl ⟨by rfl, ?_⟩) (Below.refl _ _) ?_
  rotate_left
  · intro W hW
    clear hW
    go_simp
    all_goals with_reducible rfl
  try simp only [Act.put, List.setIfInBounds_toArray, List.set_cons_zero, List.set_cons_succ]
  refine wpAnyH_take (i := 4) (oi := { dst := some 69, op := Go.Op.load 5 (Go.Operand.tmp 68), type := 5, pos := "law.go:66", after := #[{ on := 3, ground := Go.Ground.data }], guard := none }) (v := ?_) rfl (by kernel_rfl) (by kernel_rfl) (by kernel_rfl) (fun _ _ _ h => h) (Or.inl ⟨by rfl, ?_⟩) (Below.refl _ _) ?_
  rotate_left
  · intro W hW
    have hld := (Below.cell hW hB0).trans cB0
    clear hW
    go_simp
    all_goals with_reducible rfl
  try simp only [Act.put, List.setIfInBounds_toArray, List.set_cons_zero, List.set_cons_succ]
  refine wpAnyH_take (i := 5) (oi := { dst := some 70, op := Go.Op.binOp Go.BinOp.rem 5 (Go.Operand.tmp 69) (Go.Operand.const (Go.Value.int Go.IntKind.u8 3)) 5, type := 5, pos := "law.go:66", after := #[{ on := 4, ground := Go.Ground.data }], guard := none }) (v := ?_) rfl (by kernel_rfl) (by kernel_rfl) (by kernel_rfl) (fun _ _ _ h => h) (Or.inl ⟨by rfl, ?_⟩) (Below.refl _ _) ?_
  rotate_left
  · intro W hW
    clear hW
    go_simp
    all_goals with_reducible rfl
  try simp only [Act.put, List.setIfInBounds_toArray, List.set_cons_zero, List.set_cons_succ]
  refine wpAnyH_take (i := 8) (oi := { dst := some 73, op := Go.Op.move (Go.Operand.tmp 13), type := 32, pos := "law.go:66", after := #[], guard := none }) (v := ?_) rfl (by kernel_rfl) (by kernel_rfl) (by kernel_rfl) (fun _ _ _ h => h) (Or.inl ⟨by rfl, ?_⟩) (Below.refl _ _) ?_
  rotate_left
  · intro W hW
    clear hW
    go_simp
    all_goals with_reducible rfl
  try simp only [Act.put, List.setIfInBounds_toArray, List.set_cons_zero, List.set_cons_succ]
  refine wpAnyH_take (i := 10) (oi := { dst := some 75, op := Go.Op.move (Go.Operand.tmp 12), type := 3, pos := "law.go:66", after := #[], guard := none }) (v := ?_) rfl (by kernel_rfl) (by kernel_rfl) (by kernel_rfl) (fun _ _ _ h => h) (Or.inl ⟨by rfl, ?_⟩) (Below.refl _ _) ?_
  rotate_left
  · intro W hW
    clear hW
    go_simp
    all_goals with_reducible rfl
  try simp only [Act.put, List.setIfInBounds_toArray, List.set_cons_zero, List.set_cons_succ]
  refine wpAnyH_take (i := 11) (oi := { dst := some 76, op := Go.Op.indexAddr 31 (Go.Operand.tmp 6) (Go.Operand.tmp 75), type := 0, pos := "law.go:66", after := #[{ on := 10, ground := Go.Ground.data }], guard := none }) (v := ?_) rfl (by kernel_rfl) (by kernel_rfl) (by kernel_rfl) (fun _ _ _ h => h) (Or.inl ⟨by rfl, ?_⟩) (Below.refl _ _) ?_
  rotate_left
  · intro W hW
    clear hW
    go_simp
    all_goals with_reducible rfl
  try simp only [Act.put, List.setIfInBounds_toArray, List.set_cons_zero, List.set_cons_succ]
  refine wpAnyH_take (i := 12) (oi := { dst := some 77, op := Go.Op.load 5 (Go.Operand.tmp 76), type := 5, pos := "law.go:66", after := #[{ on := 11, ground := Go.Ground.data }], guard := none }) (v := ?_) rfl (by kernel_rfl) (by kernel_rfl) (by kernel_rfl) (fun _ _ _ h => h) (Or.inl ⟨by rfl, ?_⟩) (Below.refl _ _) ?_
  rotate_left
  · intro W hW
    have hld := (Below.cell hW hB0).trans cB0
    clear hW
    go_simp
    all_goals with_reducible rfl
  try simp only [Act.put, List.setIfInBounds_toArray, List.set_cons_zero, List.set_cons_succ]
  refine wpAnyH_take (i := 13) (oi := { dst := some 78, op := Go.Op.binOp Go.BinOp.rem 5 (Go.Operand.tmp 77) (Go.Operand.const (Go.Value.int Go.IntKind.u8 3)) 5, type := 5, pos := "law.go:66", after := #[{ on := 12, ground := Go.Ground.data }], guard := none }) (v := ?_) rfl (by kernel_rfl) (by kernel_rfl) (by kernel_rfl) (fun _ _ _ h => h) (Or.inl ⟨by rfl, ?_⟩) (Below.refl _ _) ?_
  rotate_left
  · intro W hW
    clear hW
    go_simp
    all_goals with_reducible rfl
  try simp only [Act.put, List.setIfInBounds_toArray, List.set_cons_zero, List.set_cons_succ]
  refine wpAnyH_ready (rs := [1, 9]) (by kernel_rfl) (by simp) ?_
  refine AllReadyH.cons (o := { dst := some 66, op := Go.Op.buildSlice 33 3 #[(0, Go.Operand.const (Go.Value.string { data := #[] })), (1, Go.Operand.const (Go.Value.string { data := #[48] })), (2, Go.Operand.const (Go.Value.string { data := #[48, 120] }))], type := 33, pos := "law.go:66", after := #[], guard := none }) rfl (fun K hK => ?_) ?_
  · go_simp
    refine hK.out _ _ ((Below.refl _ _).alloc (Nat.le_refl _) _) (fun _ => ?_)
    clear hK K
    try simp only [Act.put, List.setIfInBounds_toArray, List.set_cons_zero, List.set_cons_succ]
    refine wpAnyH_move ((Below.refl _ _).alloc (Nat.le_refl _) _) ?_
    obtain ⟨W1, hW⟩ : ∃ W', W' = W0.alloc (.cells #[Go.Value.string { data := #[] }, Go.Value.string { data := #[48] }, Go.Value.string { data := #[48, 120] }] 9) := ⟨_, rfl⟩
    rw [← hW]
    have cS1 : W1.cell? ⟨W0.heap.size, 1, none⟩ = some (.string (pfxB 1)) := by rw [hW, World.cell?_alloc_new]; rfl
    have hS1 : W0.heap.size < W1.heap.size := by rw [hW]; simp
    have hk : Below W0.heap.size W0 W1 := by rw [hW]; exact (Below.refl _ _).alloc (Nat.le_refl _) _
    clear hW
    have HW1 := Aside0.mk (below_then HW0.out HW0.out.size hk)
    have cB1 := (hk.cell hB0).trans cB0
    have hB1 := Nat.lt_of_lt_of_le hB0 hk.size
    clear hk
    clear cB0
    refine wpAnyH_take (i := 6) (oi := { dst := some 71, op := Go.Op.indexAddr 33 (Go.Operand.tmp 66) (Go.Operand.tmp 70), type := 0, pos := "law.go:66", after := #[{ on := 1, ground := Go.Ground.data }, { on := 5, ground := Go.Ground.data }], guard := none }) (v := ?_) rfl (by kernel_rfl) (by kernel_rfl) (by kernel_rfl) (fun _ _ _ h => h) (Or.inl ⟨by rfl, ?_⟩) (Below.refl _ _) ?_
    rotate_left
    · intro W hW
      clear hW
      go_simp
      all_goals with_reducible rfl
    try simp only [Act.put, List.setIfInBounds_toArray, List.set_cons_zero, List.set_cons_succ]
    refine wpAnyH_take (i := 7) (oi := { dst := some 72, op := Go.Op.load 9 (Go.Operand.tmp 71), type := 9, pos := "law.go:66", after := #[{ on := 6, ground := Go.Ground.data }], guard := none }) (v := ?_) rfl (by kernel_rfl) (by kernel_rfl) (by kernel_rfl) (fun _ _ _ h => h) (Or.inl ⟨by rfl, ?_⟩) (Below.refl _ _) ?_
    rotate_left
    · intro W hW
      have hld := (Below.cell hW hS1).trans cS1
      clear hW
      go_simp
      all_goals with_reducible rfl
    try simp only [Act.put, List.setIfInBounds_toArray, List.set_cons_zero, List.set_cons_succ]
    refine wpAnyH_ready (rs := [9]) (by kernel_rfl) (by simp) ?_
    refine AllReadyH.cons (o := { dst := some 74, op := Go.Op.buildSlice 35 3 #[(0, Go.Operand.const (Go.Value.int Go.IntKind.i64 10)), (1, Go.Operand.const (Go.Value.int Go.IntKind.i64 8)), (2, Go.Operand.const (Go.Value.int Go.IntKind.i64 16))], type := 35, pos := "law.go:66", after := #[], guard := none }) rfl (fun K hK => ?_) ?_
    · go_simp
      refine hK.out _ _ ((Below.refl _ _).alloc (Nat.le_refl _) _) (fun _ => ?_)
      clear hK K
      try simp only [Act.put, List.setIfInBounds_toArray, List.set_cons_zero, List.set_cons_succ]
      refine wpAnyH_move ((Below.refl _ _).alloc (Nat.le_refl _) _) ?_
      obtain ⟨W2, hW⟩ : ∃ W', W' = W1.alloc (.cells #[Go.Value.int Go.IntKind.i64 10, Go.Value.int Go.IntKind.i64 8, Go.Value.int Go.IntKind.i64 16] 3) := ⟨_, rfl⟩
      rw [← hW]
      have cI2 : W2.cell? ⟨W1.heap.size, 1, none⟩ = some (.int .i64 8) := by rw [hW, World.cell?_alloc_new]; rfl
      have hI2 : W1.heap.size < W2.heap.size := by rw [hW]; simp
      have hk : Below W1.heap.size W1 W2 := by rw [hW]; exact (Below.refl _ _).alloc (Nat.le_refl _) _
      clear hW
      have HW2 := Aside0.mk (below_then HW1.out HW1.out.size hk)
      have cB2 := (hk.cell hB1).trans cB1
      have hB2 := Nat.lt_of_lt_of_le hB1 hk.size
      have cS2 := (hk.cell hS1).trans cS1
      have hS2 := Nat.lt_of_lt_of_le hS1 hk.size
      clear hk
      clear cB1 cS1
      refine wpAnyH_take (i := 14) (oi := { dst := some 79, op := Go.Op.indexAddr 35 (Go.Operand.tmp 74) (Go.Operand.tmp 78), type := 0, pos := "law.go:66", after := #[{ on := 9, ground := Go.Ground.data }, { on := 13, ground := Go.Ground.data }], guard := none }) (v := ?_) rfl (by kernel_rfl) (by kernel_rfl) (by kernel_rfl) (fun _ _ _ h => h) (Or.inl ⟨by rfl, ?_⟩) (Below.refl _ _) ?_
      rotate_left
      · intro W hW
        clear hW
        go_simp
        all_goals with_reducible rfl
      try simp only [Act.put, List.setIfInBounds_toArray, List.set_cons_zero, List.set_cons_succ]
      refine wpAnyH_take (i := 15) (oi := { dst := some 80, op := Go.Op.load 3 (Go.Operand.tmp 79), type := 3, pos := "law.go:66", after := #[{ on := 14, ground := Go.Ground.data }], guard := none }) (v := ?_) rfl (by kernel_rfl) (by kernel_rfl) (by kernel_rfl) (fun _ _ _ h => h) (Or.inl ⟨by rfl, ?_⟩) (Below.refl _ _) ?_
      rotate_left
      · intro W hW
        have hld := (Below.cell hW hI2).trans cI2
        clear hW
        go_simp
        all_goals with_reducible rfl
      try simp only [Act.put, List.setIfInBounds_toArray, List.set_cons_zero, List.set_cons_succ]
      refine wpAnyH_ready (rs := [16]) (by kernel_rfl) (by simp) ?_
      refine AllReadyH.cons (o := { dst := some 81, op := Go.Op.call { callee := Go.Callee.value (Go.Operand.func 16), args := #[Go.Operand.tmp 73, Go.Operand.tmp 80], argTypes := #[32, 3] }, type := 9, pos := "law.go:66", after := #[{ on := 8, ground := Go.Ground.data }, { on := 15, ground := Go.Ground.data }], guard := none }) rfl (fun K hK => ?_) ?_
      · go_simp
        refine (FormatUint_calls 8 (by omega) x hx W2 (hP.out.stays HW2.out) (hT.out.stays HW2.out)).mono ?_
        rintro e W3 ⟨rfl, hk⟩
        rw [← HY.out]
        refine hK.out _ _ hk (fun _ => ?_)
        clear hK K
        try simp only [Act.put, List.setIfInBounds_toArray, List.set_cons_zero, List.set_cons_succ]
        refine wpAnyH_move hk ?_
        have HW3 := Aside0.mk (below_then HW2.out HW2.out.size hk)
        have cB3 := (hk.cell hB2).trans cB2
        have hB3 := Nat.lt_of_lt_of_le hB2 hk.size
        have cI3 := (hk.cell hI2).trans cI2
        have hI3 := Nat.lt_of_lt_of_le hI2 hk.size
        have cS3 := (hk.cell hS2).trans cS2
        have hS3 := Nat.lt_of_lt_of_le hS2 hk.size
        clear hk
        clear cB2 cI2 cS2
        refine wpAnyH_ready (rs := [17]) (by kernel_rfl) (by simp) ?_
        refine AllReadyH.cons (o := { dst := some 82, op := Go.Op.binOp Go.BinOp.add 9 (Go.Operand.tmp 72) (Go.Operand.tmp 81) 9, type := 9, pos := "law.go:66", after := #[{ on := 7, ground := Go.Ground.data }, { on := 16, ground := Go.Ground.data }], guard := none }) rfl (fun K hK => ?_) ?_
        · go_simp
          go_wp2_with fail
          refine hK.out _ _ (Below.refl _ _) (fun _ => ?_)
          clear hK K
          try simp only [Act.put, List.setIfInBounds_toArray, List.set_cons_zero, List.set_cons_succ]
          refine wpAnyH_ready (rs := [18]) (by kernel_rfl) (by simp) ?_
          refine AllReadyH.cons (o := { dst := some 83, op := Go.Op.binOp Go.BinOp.add 9 (Go.Operand.tmp 65) (Go.Operand.tmp 82) 9, type := 9, pos := "law.go:66", after := #[{ on := 0, ground := Go.Ground.data }, { on := 17, ground := Go.Ground.data }], guard := none }) rfl (fun K hK => ?_) ?_
          · go_simp
            go_wp2_with fail
            refine hK.out _ _ (Below.refl _ _) (fun _ => ?_)
            clear hK K
            try simp only [Act.put, List.setIfInBounds_toArray, List.set_cons_zero, List.set_cons_succ]
            refine wpAnyH_ready (rs := [19]) (by kernel_rfl) (by simp) ?_
            refine AllReadyH.cons (o := { dst := some 10, op := Go.Op.assign (Go.Operand.tmp 83), type := 9, pos := "law.go:66", after := #[{ on := 18, ground := Go.Ground.data }, { on := 16, ground := Go.Ground.chain }, { on := 0, ground := Go.Ground.phase }, { on := 1, ground := Go.Ground.phase }, { on := 2, ground := Go.Ground.phase }, { on := 3, ground := Go.Ground.phase }, { on := 4, ground := Go.Ground.phase }, { on := 5, ground := Go.Ground.phase }, { on := 6, ground := Go.Ground.phase }, { on := 7, ground := Go.Ground.phase }, { on := 8, ground := Go.Ground.phase }, { on := 9, ground := Go.Ground.phase }, { on := 10, ground := Go.Ground.phase }, { on := 11, ground := Go.Ground.phase }, { on := 12, ground := Go.Ground.phase }, { on := 13, ground := Go.Ground.phase }, { on := 14, ground := Go.Ground.phase }, { on := 15, ground := Go.Ground.phase }, { on := 16, ground := Go.Ground.phase }, { on := 17, ground := Go.Ground.phase }, { on := 18, ground := Go.Ground.phase }], guard := none }) rfl (fun K hK => ?_) ?_
            · go_simp
              refine hK.out _ _ (Below.refl _ _) (fun _ => ?_)
              clear hK K
              try simp only [Act.put, List.setIfInBounds_toArray, List.set_cons_zero, List.set_cons_succ]
              refine wpAnyH_done (by kernel_rfl) ?_ _
              exact HQ.out _ _ _ _ _ _ _ _ _ _ _ _ _ _ _ _ _ _ _ W3 HW3.out
            exact AllReadyH.nil
          exact AllReadyH.nil
        exact AllReadyH.nil
      exact AllReadyH.nil
    exact AllReadyH.nil
  refine AllReadyH.cons (o := { dst := some 74, op := Go.Op.buildSlice 35 3 #[(0, Go.Operand.const (Go.Value.int Go.IntKind.i64 10)), (1, Go.Operand.const (Go.Value.int Go.IntKind.i64 8)), (2, Go.Operand.const (Go.Value.int Go.IntKind.i64 16))], type := 35, pos := "law.go:66", after := #[], guard := none }) rfl (fun K hK => ?_) ?_
  · go_simp
    refine hK.out _ _ ((Below.refl _ _).alloc (Nat.le_refl _) _) (fun _ => ?_)
    clear hK K
    try simp only [Act.put, List.setIfInBounds_toArray, List.set_cons_zero, List.set_cons_succ]
    refine wpAnyH_move ((Below.refl _ _).alloc (Nat.le_refl _) _) ?_
    obtain ⟨W1, hW⟩ : ∃ W', W' = W0.alloc (.cells #[Go.Value.int Go.IntKind.i64 10, Go.Value.int Go.IntKind.i64 8, Go.Value.int Go.IntKind.i64 16] 3) := ⟨_, rfl⟩
    rw [← hW]
    have cI1 : W1.cell? ⟨W0.heap.size, 1, none⟩ = some (.int .i64 8) := by rw [hW, World.cell?_alloc_new]; rfl
    have hI1 : W0.heap.size < W1.heap.size := by rw [hW]; simp
    have hk : Below W0.heap.size W0 W1 := by rw [hW]; exact (Below.refl _ _).alloc (Nat.le_refl _) _
    clear hW
    have HW1 := Aside0.mk (below_then HW0.out HW0.out.size hk)
    have cB1 := (hk.cell hB0).trans cB0
    have hB1 := Nat.lt_of_lt_of_le hB0 hk.size
    clear hk
    clear cB0
    refine wpAnyH_take (i := 14) (oi := { dst := some 79, op := Go.Op.indexAddr 35 (Go.Operand.tmp 74) (Go.Operand.tmp 78), type := 0, pos := "law.go:66", after := #[{ on := 9, ground := Go.Ground.data }, { on := 13, ground := Go.Ground.data }], guard := none }) (v := ?_) rfl (by kernel_rfl) (by kernel_rfl) (by kernel_rfl) (fun _ _ _ h => h) (Or.inl ⟨by rfl, ?_⟩) (Below.refl _ _) ?_
    rotate_left
    · intro W hW
      clear hW
      go_simp
      all_goals with_reducible rfl
    try simp only [Act.put, List.setIfInBounds_toArray, List.set_cons_zero, List.set_cons_succ]
    refine wpAnyH_take (i := 15) (oi := { dst := some 80, op := Go.Op.load 3 (Go.Operand.tmp 79), type := 3, pos := "law.go:66", after := #[{ on := 14, ground := Go.Ground.data }], guard := none }) (v := ?_) rfl (by kernel_rfl) (by kernel_rfl) (by kernel_rfl) (fun _ _ _ h => h) (Or.inl ⟨by rfl, ?_⟩) (Below.refl _ _) ?_
    rotate_left
    · intro W hW
      have hld := (Below.cell hW hI1).trans cI1
      clear hW
      go_simp
      all_goals with_reducible rfl
    try simp only [Act.put, List.setIfInBounds_toArray, List.set_cons_zero, List.set_cons_succ]
    refine wpAnyH_ready (rs := [1, 16]) (by kernel_rfl) (by simp) ?_
    refine AllReadyH.cons (o := { dst := some 66, op := Go.Op.buildSlice 33 3 #[(0, Go.Operand.const (Go.Value.string { data := #[] })), (1, Go.Operand.const (Go.Value.string { data := #[48] })), (2, Go.Operand.const (Go.Value.string { data := #[48, 120] }))], type := 33, pos := "law.go:66", after := #[], guard := none }) rfl (fun K hK => ?_) ?_
    · go_simp
      refine hK.out _ _ ((Below.refl _ _).alloc (Nat.le_refl _) _) (fun _ => ?_)
      clear hK K
      try simp only [Act.put, List.setIfInBounds_toArray, List.set_cons_zero, List.set_cons_succ]
      refine wpAnyH_move ((Below.refl _ _).alloc (Nat.le_refl _) _) ?_
      obtain ⟨W2, hW⟩ : ∃ W', W' = W1.alloc (.cells #[Go.Value.string { data := #[] }, Go.Value.string { data := #[48] }, Go.Value.string { data := #[48, 120] }] 9) := ⟨_, rfl⟩
      rw [← hW]
      have cS2 : W2.cell? ⟨W1.heap.size, 1, none⟩ = some (.string (pfxB 1)) := by rw [hW, World.cell?_alloc_new]; rfl
      have hS2 : W1.heap.size < W2.heap.size := by rw [hW]; simp
      have hk : Below W1.heap.size W1 W2 := by rw [hW]; exact (Below.refl _ _).alloc (Nat.le_refl _) _
      clear hW
      have HW2 := Aside0.mk (below_then HW1.out HW1.out.size hk)
      have cB2 := (hk.cell hB1).trans cB1
      have hB2 := Nat.lt_of_lt_of_le hB1 hk.size
      have cI2 := (hk.cell hI1).trans cI1
      have hI2 := Nat.lt_of_lt_of_le hI1 hk.size
      clear hk
      clear cB1 cI1
      refine wpAnyH_take (i := 6) (oi := { dst := some 71, op := Go.Op.indexAddr 33 (Go.Operand.tmp 66) (Go.Operand.tmp 70), type := 0, pos := "law.go:66", after := #[{ on := 1, ground := Go.Ground.data }, { on := 5, ground := Go.Ground.data }], guard := none }) (v := ?_) rfl (by kernel_rfl) (by kernel_rfl) (by kernel_rfl) (fun _ _ _ h => h) (Or.inl ⟨by rfl, ?_⟩) (Below.refl _ _) ?_
      rotate_left
      · intro W hW
        clear hW
        go_simp
        all_goals with_reducible rfl
      try simp only [Act.put, List.setIfInBounds_toArray, List.set_cons_zero, List.set_cons_succ]
      refine wpAnyH_take (i := 7) (oi := { dst := some 72, op := Go.Op.load 9 (Go.Operand.tmp 71), type := 9, pos := "law.go:66", after := #[{ on := 6, ground := Go.Ground.data }], guard := none }) (v := ?_) rfl (by kernel_rfl) (by kernel_rfl) (by kernel_rfl) (fun _ _ _ h => h) (Or.inl ⟨by rfl, ?_⟩) (Below.refl _ _) ?_
      rotate_left
      · intro W hW
        have hld := (Below.cell hW hS2).trans cS2
        clear hW
        go_simp
        all_goals with_reducible rfl
      try simp only [Act.put, List.setIfInBounds_toArray, List.set_cons_zero, List.set_cons_succ]
      refine wpAnyH_ready (rs := [16]) (by kernel_rfl) (by simp) ?_
      refine AllReadyH.cons (o := { dst := some 81, op := Go.Op.call { callee := Go.Callee.value (Go.Operand.func 16), args := #[Go.Operand.tmp 73, Go.Operand.tmp 80], argTypes := #[32, 3] }, type := 9, pos := "law.go:66", after := #[{ on := 8, ground := Go.Ground.data }, { on := 15, ground := Go.Ground.data }], guard := none }) rfl (fun K hK => ?_) ?_
      · go_simp
        refine (FormatUint_calls 8 (by omega) x hx W2 (hP.out.stays HW2.out) (hT.out.stays HW2.out)).mono ?_
        rintro e W3 ⟨rfl, hk⟩
        rw [← HY.out]
        refine hK.out _ _ hk (fun _ => ?_)
        clear hK K
        try simp only [Act.put, List.setIfInBounds_toArray, List.set_cons_zero, List.set_cons_succ]
        refine wpAnyH_move hk ?_
        have HW3 := Aside0.mk (below_then HW2.out HW2.out.size hk)
        have cB3 := (hk.cell hB2).trans cB2
        have hB3 := Nat.lt_of_lt_of_le hB2 hk.size
        have cI3 := (hk.cell hI2).trans cI2
        have hI3 := Nat.lt_of_lt_of_le hI2 hk.size
        have cS3 := (hk.cell hS2).trans cS2
        have hS3 := Nat.lt_of_lt_of_le hS2 hk.size
        clear hk
        clear cB2 cI2 cS2
        refine wpAnyH_ready (rs := [17]) (by kernel_rfl) (by simp) ?_
        refine AllReadyH.cons (o := { dst := some 82, op := Go.Op.binOp Go.BinOp.add 9 (Go.Operand.tmp 72) (Go.Operand.tmp 81) 9, type := 9, pos := "law.go:66", after := #[{ on := 7, ground := Go.Ground.data }, { on := 16, ground := Go.Ground.data }], guard := none }) rfl (fun K hK => ?_) ?_
        · go_simp
          go_wp2_with fail
          refine hK.out _ _ (Below.refl _ _) (fun _ => ?_)
          clear hK K
          try simp only [Act.put, List.setIfInBounds_toArray, List.set_cons_zero, List.set_cons_succ]
          refine wpAnyH_ready (rs := [18]) (by kernel_rfl) (by simp) ?_
          refine AllReadyH.cons (o := { dst := some 83, op := Go.Op.binOp Go.BinOp.add 9 (Go.Operand.tmp 65) (Go.Operand.tmp 82) 9, type := 9, pos := "law.go:66", after := #[{ on := 0, ground := Go.Ground.data }, { on := 17, ground := Go.Ground.data }], guard := none }) rfl (fun K hK => ?_) ?_
          · go_simp
            go_wp2_with fail
            refine hK.out _ _ (Below.refl _ _) (fun _ => ?_)
            clear hK K
            try simp only [Act.put, List.setIfInBounds_toArray, List.set_cons_zero, List.set_cons_succ]
            refine wpAnyH_ready (rs := [19]) (by kernel_rfl) (by simp) ?_
            refine AllReadyH.cons (o := { dst := some 10, op := Go.Op.assign (Go.Operand.tmp 83), type := 9, pos := "law.go:66", after := #[{ on := 18, ground := Go.Ground.data }, { on := 16, ground := Go.Ground.chain }, { on := 0, ground := Go.Ground.phase }, { on := 1, ground := Go.Ground.phase }, { on := 2, ground := Go.Ground.phase }, { on := 3, ground := Go.Ground.phase }, { on := 4, ground := Go.Ground.phase }, { on := 5, ground := Go.Ground.phase }, { on := 6, ground := Go.Ground.phase }, { on := 7, ground := Go.Ground.phase }, { on := 8, ground := Go.Ground.phase }, { on := 9, ground := Go.Ground.phase }, { on := 10, ground := Go.Ground.phase }, { on := 11, ground := Go.Ground.phase }, { on := 12, ground := Go.Ground.phase }, { on := 13, ground := Go.Ground.phase }, { on := 14, ground := Go.Ground.phase }, { on := 15, ground := Go.Ground.phase }, { on := 16, ground := Go.Ground.phase }, { on := 17, ground := Go.Ground.phase }, { on := 18, ground := Go.Ground.phase }], guard := none }) rfl (fun K hK => ?_) ?_
            · go_simp
              refine hK.out _ _ (Below.refl _ _) (fun _ => ?_)
              clear hK K
              try simp only [Act.put, List.setIfInBounds_toArray, List.set_cons_zero, List.set_cons_succ]
              refine wpAnyH_done (by kernel_rfl) ?_ _
              exact HQ.out _ _ _ _ _ _ _ _ _ _ _ _ _ _ _ _ _ _ _ W3 HW3.out
            exact AllReadyH.nil
          exact AllReadyH.nil
        exact AllReadyH.nil
      exact AllReadyH.nil
    refine AllReadyH.cons (o := { dst := some 81, op := Go.Op.call { callee := Go.Callee.value (Go.Operand.func 16), args := #[Go.Operand.tmp 73, Go.Operand.tmp 80], argTypes := #[32, 3] }, type := 9, pos := "law.go:66", after := #[{ on := 8, ground := Go.Ground.data }, { on := 15, ground := Go.Ground.data }], guard := none }) rfl (fun K hK => ?_) ?_
    · go_simp
      refine (FormatUint_calls 8 (by omega) x hx W1 (hP.out.stays HW1.out) (hT.out.stays HW1.out)).mono ?_
      rintro e W2 ⟨rfl, hk⟩
      rw [← HY.out]
      refine hK.out _ _ hk (fun _ => ?_)
      clear hK K
      try simp only [Act.put, List.setIfInBounds_toArray, List.set_cons_zero, List.set_cons_succ]
      refine wpAnyH_move hk ?_
      have HW2 := Aside0.mk (below_then HW1.out HW1.out.size hk)
      have cB2 := (hk.cell hB1).trans cB1
      have hB2 := Nat.lt_of_lt_of_le hB1 hk.size
      have cI2 := (hk.cell hI1).trans cI1
      have hI2 := Nat.lt_of_lt_of_le hI1 hk.size
      clear hk
      clear cB1 cI1
      refine wpAnyH_ready (rs := [1]) (by kernel_rfl) (by simp) ?_
      refine AllReadyH.cons (o := { dst := some 66, op := Go.Op.buildSlice 33 3 #[(0, Go.Operand.const (Go.Value.string { data := #[] })), (1, Go.Operand.const (Go.Value.string { data := #[48] })), (2, Go.Operand.const (Go.Value.string { data := #[48, 120] }))], type := 33, pos := "law.go:66", after := #[], guard := none }) rfl (fun K hK => ?_) ?_
      · go_simp
        refine hK.out _ _ ((Below.refl _ _).alloc (Nat.le_refl _) _) (fun _ => ?_)
        clear hK K
        try simp only [Act.put, List.setIfInBounds_toArray, List.set_cons_zero, List.set_cons_succ]
        refine wpAnyH_move ((Below.refl _ _).alloc (Nat.le_refl _) _) ?_
        obtain ⟨W3, hW⟩ : ∃ W', W' = W2.alloc (.cells #[Go.Value.string { data := #[] }, Go.Value.string { data := #[48] }, Go.Value.string { data := #[48, 120] }] 9) := ⟨_, rfl⟩
        rw [← hW]
        have cS3 : W3.cell? ⟨W2.heap.size, 1, none⟩ = some (.string (pfxB 1)) := by rw [hW, World.cell?_alloc_new]; rfl
        have hS3 : W2.heap.size < W3.heap.size := by rw [hW]; simp
        have hk : Below W2.heap.size W2 W3 := by rw [hW]; exact (Below.refl _ _).alloc (Nat.le_refl _) _
        clear hW
        have HW3 := Aside0.mk (below_then HW2.out HW2.out.size hk)
        have cB3 := (hk.cell hB2).trans cB2
        have hB3 := Nat.lt_of_lt_of_le hB2 hk.size
        have cI3 := (hk.cell hI2).trans cI2
        have hI3 := Nat.lt_of_lt_of_le hI2 hk.size
        clear hk
        clear cB2 cI2
        refine wpAnyH_take (i := 6) (oi := { dst := some 71, op := Go.Op.indexAddr 33 (Go.Operand.tmp 66) (Go.Operand.tmp 70), type := 0, pos := "law.go:66", after := #[{ on := 1, ground := Go.Ground.data }, { on := 5, ground := Go.Ground.data }], guard := none }) (v := ?_) rfl (by kernel_rfl) (by kernel_rfl) (by kernel_rfl) (fun _ _ _ h => h) (Or.inl ⟨by rfl, ?_⟩) (Below.refl _ _) ?_
        rotate_left
        · intro W hW
          clear hW
          go_simp
          all_goals with_reducible rfl
        try simp only [Act.put, List.setIfInBounds_toArray, List.set_cons_zero, List.set_cons_succ]
        refine wpAnyH_take (i := 7) (oi := { dst := some 72, op := Go.Op.load 9 (Go.Operand.tmp 71), type := 9, pos := "law.go:66", after := #[{ on := 6, ground := Go.Ground.data }], guard := none }) (v := ?_) rfl (by kernel_rfl) (by kernel_rfl) (by kernel_rfl) (fun _ _ _ h => h) (Or.inl ⟨by rfl, ?_⟩) (Below.refl _ _) ?_
        rotate_left
        · intro W hW
          have hld := (Below.cell hW hS3).trans cS3
          clear hW
          go_simp
          all_goals with_reducible rfl
        try simp only [Act.put, List.setIfInBounds_toArray, List.set_cons_zero, List.set_cons_succ]
        refine wpAnyH_ready (rs := [17]) (by kernel_rfl) (by simp) ?_
        refine AllReadyH.cons (o := { dst := some 82, op := Go.Op.binOp Go.BinOp.add 9 (Go.Operand.tmp 72) (Go.Operand.tmp 81) 9, type := 9, pos := "law.go:66", after := #[{ on := 7, ground := Go.Ground.data }, { on := 16, ground := Go.Ground.data }], guard := none }) rfl (fun K hK => ?_) ?_
        · go_simp
          go_wp2_with fail
          refine hK.out _ _ (Below.refl _ _) (fun _ => ?_)
          clear hK K
          try simp only [Act.put, List.setIfInBounds_toArray, List.set_cons_zero, List.set_cons_succ]
          refine wpAnyH_ready (rs := [18]) (by kernel_rfl) (by simp) ?_
          refine AllReadyH.cons (o := { dst := some 83, op := Go.Op.binOp Go.BinOp.add 9 (Go.Operand.tmp 65) (Go.Operand.tmp 82) 9, type := 9, pos := "law.go:66", after := #[{ on := 0, ground := Go.Ground.data }, { on := 17, ground := Go.Ground.data }], guard := none }) rfl (fun K hK => ?_) ?_
          · go_simp
            go_wp2_with fail
            refine hK.out _ _ (Below.refl _ _) (fun _ => ?_)
            clear hK K
            try simp only [Act.put, List.setIfInBounds_toArray, List.set_cons_zero, List.set_cons_succ]
            refine wpAnyH_ready (rs := [19]) (by kernel_rfl) (by simp) ?_
            refine AllReadyH.cons (o := { dst := some 10, op := Go.Op.assign (Go.Operand.tmp 83), type := 9, pos := "law.go:66", after := #[{ on := 18, ground := Go.Ground.data }, { on := 16, ground := Go.Ground.chain }, { on := 0, ground := Go.Ground.phase }, { on := 1, ground := Go.Ground.phase }, { on := 2, ground := Go.Ground.phase }, { on := 3, ground := Go.Ground.phase }, { on := 4, ground := Go.Ground.phase }, { on := 5, ground := Go.Ground.phase }, { on := 6, ground := Go.Ground.phase }, { on := 7, ground := Go.Ground.phase }, { on := 8, ground := Go.Ground.phase }, { on := 9, ground := Go.Ground.phase }, { on := 10, ground := Go.Ground.phase }, { on := 11, ground := Go.Ground.phase }, { on := 12, ground := Go.Ground.phase }, { on := 13, ground := Go.Ground.phase }, { on := 14, ground := Go.Ground.phase }, { on := 15, ground := Go.Ground.phase }, { on := 16, ground := Go.Ground.phase }, { on := 17, ground := Go.Ground.phase }, { on := 18, ground := Go.Ground.phase }], guard := none }) rfl (fun K hK => ?_) ?_
            · go_simp
              refine hK.out _ _ (Below.refl _ _) (fun _ => ?_)
              clear hK K
              try simp only [Act.put, List.setIfInBounds_toArray, List.set_cons_zero, List.set_cons_succ]
              refine wpAnyH_done (by kernel_rfl) ?_ _
              exact HQ.out _ _ _ _ _ _ _ _ _ _ _ _ _ _ _ _ _ _ _ W3 HW3.out
            exact AllReadyH.nil
          exact AllReadyH.nil
        exact AllReadyH.nil
      exact AllReadyH.nil
    exact AllReadyH.nil
  exact AllReadyH.nil
set_option maxHeartbeats 40000000 in
set_option maxRecDepth 100000 in
theorem short_reg13_2 {t0 t1 t2 t3 t4 t5 t7 t8 t9 t11 t14 t15 t16 t17 t18 t19 t20 t21 t22 t23 t24 t25 t26 t27 t28 t29 t30 t31 t32 t33 t34 t35 t36 t37 t38 t39 t40 t41 t42 t43 t44 t45 t46 t47 t48 t49 t50 t51 t52 t53 t54 t55 t56 t57 t58 t59 t60 t61 t62 t63 t64 t65 t66 t67 t68 t69 t70 t71 t72 t73 t74 t75 t76 t77 t78 t79 t80 t81 t82 t83 t84 t85 t86 t87 t88 t89 t90 t91 t92 t93 t94 t95 t96 t97 t98 : Value} (B j x bv : Nat) (z : ByteArray) (Q : Exit → Act → World → Prop) (w : World) (hj : j < 4) (hx : x < 18446744073709551616) (hbm : (bv : Int) % 3 = 2) (hz : z.size ≤ 400)
    (hB : B < w.heap.size) (hc : w.cell? ⟨B, j, none⟩ = some (.int .u8 (bv : Int))) (hP : Aside0 (Pows w)) (hT : Aside0 (Debr w))
    (hQ : ∀ (s65 s66 s67 s68 s69 s70 s71 s72 s73 s74 s75 s76 s77 s78 s79 s80 s81 s82 s83 : Value) (W : World), Below w.heap.size w W → Q .normal { tmps := List.toArray (t0 :: t1 :: t2 :: t3 :: t4 :: t5 :: .pointer (some ⟨B, 0, none⟩) :: t7 :: t8 :: t9 :: .string (z ++ (pfxB 2 ++ ⟨(digB 16 x).toArray⟩)) :: t11 :: .int .i64 (j : Int) :: .int .u64 (x : Int) :: t14 :: t15 :: t16 :: t17 :: t18 :: t19 :: t20 :: t21 :: t22 :: t23 :: t24 :: t25 :: t26 :: t27 :: t28 :: t29 :: t30 :: t31 :: t32 :: t33 :: t34 :: t35 :: t36 :: t37 :: t38 :: t39 :: t40 :: t41 :: t42 :: t43 :: t44 :: t45 :: t46 :: t47 :: t48 :: t49 :: t50 :: t51 :: t52 :: t53 :: t54 :: t55 :: t56 :: t57 :: t58 :: t59 :: t60 :: t61 :: t62 :: t63 :: t64 :: s65 :: s66 :: s67 :: s68 :: s69 :: s70 :: s71 :: s72 :: s73 :: s74 :: s75 :: s76 :: s77 :: s78 :: s79 :: s80 :: s81 :: s82 :: s83 :: t84 :: t85 :: t86 :: t87 :: t88 :: t89 :: t90 :: t91 :: t92 :: t93 :: t94 :: t95 :: t96 :: t97 :: t98 :: []), defers := [] } W) :
    (Code.region 13 #[{ dst := some 65, op := Go.Op.move (Go.Operand.tmp 10), type := 9, pos := "law.go:66", after := #[], guard := none }, { dst := some 66, op := Go.Op.buildSlice 33 3 #[(0, Go.Operand.const (Go.Value.string { data := #[] })), (1, Go.Operand.const (Go.Value.string { data := #[48] })), (2, Go.Operand.const (Go.Value.string { data := #[48, 120] }))], type := 33, pos := "law.go:66", after := #[], guard := none }, { dst := some 67, op := Go.Op.move (Go.Operand.tmp 12), type := 3, pos := "law.go:66", after := #[], guard := none }, { dst := some 68, op := Go.Op.indexAddr 31 (Go.Operand.tmp 6) (Go.Operand.tmp 67), type := 0, pos := "law.go:66", after := #[{ on := 2, ground := Go.Ground.data }], guard := none }, { dst := some 69, op := Go.Op.load 5 (Go.Operand.tmp 68), type := 5, pos := "law.go:66", after := #[{ on := 3, ground := Go.Ground.data }], guard := none }, { dst := some 70, op := Go.Op.binOp Go.BinOp.rem 5 (Go.Operand.tmp 69) (Go.Operand.const (Go.Value.int Go.IntKind.u8 3)) 5, type := 5, pos := "law.go:66", after := #[{ on := 4, ground := Go.Ground.data }], guard := none }, { dst := some 71, op := Go.Op.indexAddr 33 (Go.Operand.tmp 66) (Go.Operand.tmp 70), type := 0, pos := "law.go:66", after := #[{ on := 1, ground := Go.Ground.data }, { on := 5, ground := Go.Ground.data }], guard := none }, { dst := some 72, op := Go.Op.load 9 (Go.Operand.tmp 71), type := 9, pos := "law.go:66", after := #[{ on := 6, ground := Go.Ground.data }], guard := none }, { dst := some 73, op := Go.Op.move (Go.Operand.tmp 13), type := 32, pos := "law.go:66", after := #[], guard := none }, { dst := some 74, op := Go.Op.buildSlice 35 3 #[(0, Go.Operand.const (Go.Value.int Go.IntKind.i64 10)), (1, Go.Operand.const (Go.Value.int Go.IntKind.i64 8)), (2, Go.Operand.const (Go.Value.int Go.IntKind.i64 16))], type := 35, pos := "law.go:66", after := #[], guard := none }, { dst := some 75, op := Go.Op.move (Go.Operand.tmp 12), type := 3, pos := "law.go:66", after := #[], guard := none }, { dst := some 76, op := Go.Op.indexAddr 31 (Go.Operand.tmp 6) (Go.Operand.tmp 75), type := 0, pos := "law.go:66", after := #[{ on := 10, ground := Go.Ground.data }], guard := none }, { dst := some 77, op := Go.Op.load 5 (Go.Operand.tmp 76), type := 5, pos := "law.go:66", after := #[{ on := 11, ground := Go.Ground.data }], guard := none }, { dst := some 78, op := Go.Op.binOp Go.BinOp.rem 5 (Go.Operand.tmp 77) (Go.Operand.const (Go.Value.int Go.IntKind.u8 3)) 5, type := 5, pos := "law.go:66", after := #[{ on := 12, ground := Go.Ground.data }], guard := none }, { dst := some 79, op := Go.Op.indexAddr 35 (Go.Operand.tmp 74) (Go.Operand.tmp 78), type := 0, pos := "law.go:66", after := #[{ on := 9, ground := Go.Ground.data }, { on := 13, ground := Go.Ground.data }], guard := none }, { dst := some 80, op := Go.Op.load 3 (Go.Operand.tmp 79), type := 3, pos := "law.go:66", after := #[{ on := 14, ground := Go.Ground.data }], guard := none }, { dst := some 81, op := Go.Op.call { callee := Go.Callee.value (Go.Operand.func 16), args := #[Go.Operand.tmp 73, Go.Operand.tmp 80], argTypes := #[32, 3] }, type := 9, pos := "law.go:66", after := #[{ on := 8, ground := Go.Ground.data }, { on := 15, ground := Go.Ground.data }], guard := none }, { dst := some 82, op := Go.Op.binOp Go.BinOp.add 9 (Go.Operand.tmp 72) (Go.Operand.tmp 81) 9, type := 9, pos := "law.go:66", after := #[{ on := 7, ground := Go.Ground.data }, { on := 16, ground := Go.Ground.data }], guard := none }, { dst := some 83, op := Go.Op.binOp Go.BinOp.add 9 (Go.Operand.tmp 65) (Go.Operand.tmp 82) 9, type := 9, pos := "law.go:66", after := #[{ on := 0, ground := Go.Ground.data }, { on := 17, ground := Go.Ground.data }], guard := none }, { dst := some 10, op := Go.Op.assign (Go.Operand.tmp 83), type := 9, pos := "law.go:66", after := #[{ on := 18, ground := Go.Ground.data }, { on := 16, ground := Go.Ground.chain }, { on := 0, ground := Go.Ground.phase }, { on := 1, ground := Go.Ground.phase }, { on := 2, ground := Go.Ground.phase }, { on := 3, ground := Go.Ground.phase }, { on := 4, ground := Go.Ground.phase }, { on := 5, ground := Go.Ground.phase }, { on := 6, ground := Go.Ground.phase }, { on := 7, ground := Go.Ground.phase }, { on := 8, ground := Go.Ground.phase }, { on := 9, ground := Go.Ground.phase }, { on := 10, ground := Go.Ground.phase }, { on := 11, ground := Go.Ground.phase }, { on := 12, ground := Go.Ground.phase }, { on := 13, ground := Go.Ground.phase }, { on := 14, ground := Go.Ground.phase }, { on := 15, ground := Go.Ground.phase }, { on := 16, ground := Go.Ground.phase }, { on := 17, ground := Go.Ground.phase }, { on := 18, ground := Go.Ground.phase }], guard := none }] true).wp Tryd.prog Q { tmps := List.toArray (t0 :: t1 :: t2 :: t3 :: t4 :: t5 :: .pointer (some ⟨B, 0, none⟩) :: t7 :: t8 :: t9 :: .string z :: t11 :: .int .i64 (j : Int) :: .int .u64 (x : Int) :: t14 :: t15 :: t16 :: t17 :: t18 :: t19 :: t20 :: t21 :: t22 :: t23 :: t24 :: t25 :: t26 :: t27 :: t28 :: t29 :: t30 :: t31 :: t32 :: t33 :: t34 :: t35 :: t36 :: t37 :: t38 :: t39 :: t40 :: t41 :: t42 :: t43 :: t44 :: t45 :: t46 :: t47 :: t48 :: t49 :: t50 :: t51 :: t52 :: t53 :: t54 :: t55 :: t56 :: t57 :: t58 :: t59 :: t60 :: t61 :: t62 :: t63 :: t64 :: t65 :: t66 :: t67 :: t68 :: t69 :: t70 :: t71 :: t72 :: t73 :: t74 :: t75 :: t76 :: t77 :: t78 :: t79 :: t80 :: t81 :: t82 :: t83 :: t84 :: t85 :: t86 :: t87 :: t88 :: t89 :: t90 :: t91 :: t92 :: t93 :: t94 :: t95 :: t96 :: t97 :: t98 :: []), defers := [] } w := by
  have hlen := digB_len 16 (by omega) x 64 (by omega)
  obtain ⟨y, hy⟩ : ∃ y : ByteArray, y = ⟨(digB 16 x).toArray⟩ := ⟨_, rfl⟩
  have hys : y.size ≤ 65 := by
    rw [hy, mk_size]
    omega
  have hps : (pfxB 2).size ≤ 2 := by decide
  have hs1 : (pfxB 2 ++ y).size ≤ 70 := sz_cat _ _ 2 65 70 hps hys (by omega)
  have hs2 : (pfxB 2 ++ y ++ ⟨#[46]⟩).size ≤ 80 := sz_cat _ _ 70 1 80 hs1 (by decide) (by omega)
  have HY := Lib.hid hy
  have HQ := Aside0.mk hQ
  clear hQ
  rw [← hy] at HQ
  clear hy hlen
  have hbt : (bv : Int).tmod 3 = 2 := by rw [Int.tmod_eq_emod_of_nonneg (by omega)]; exact hbm
  have hj0 : (0 : Int) ≤ (j : Int) := by omega
  have hj1 : (j : Int) < 4 := by omega
  refine wp_region_noPanic ?_
  refine wp_region_held_drew (S := fun W => Below w.drew.heap.size w.drew W) (by kernel_rfl) (Below.refl _ _) (fun _ => ?_)
  have HW0 : Aside0 (Below w.heap.size w w.drew) := ⟨⟨rfl, rfl, rfl, Nat.le_refl _, fun _ _ => rfl⟩⟩
  have cB0 : w.drew.cell? ⟨B, j, none⟩ = some (.int .u8 (bv : Int)) := hc
  have hB0 : B < w.drew.heap.size := hB
  generalize w.drew = W0 at *
  refine wpAnyH_take (i := 0) (oi := { dst := some 65, op := Go.Op.move (Go.Operand.tmp 10), type := 9, pos := "law.go:66", after := #[], guard := none }) (v := ?_) rfl (by kernel_rfl) (by kernel_rfl) (by kernel_rfl) (fun _ _ _ h => h) (Or.inl ⟨by rfl, ?_⟩) (Below.refl _ _) ?_
  rotate_left
  · intro W hW
    clear hW
    go_simp
    all_goals with_reducible rfl
  try simp only [Act.put, List.setIfInBounds_toArray, List.set_cons_zero, List.set_cons_succ]
  refine wpAnyH_take (i := 2) (oi := { dst := some 67, op := Go.Op.move (Go.Operand.tmp 12), type := 3, pos := "law.go:66", after := #[], guard := none }) (v := ?_) rfl (by kernel_rfl) (by kernel_rfl) (by kernel_rfl) (fun _ _ _ h => h) (Or.inl ⟨by rfl, ?_⟩) (Below.refl _ _) ?_
  rotate_left
  · intro W hW
    clear hW
    go_simp
    all_goals with_reducible rfl
  try simp only [Act.put, List.setIfInBounds_toArray, List.set_cons_zero, List.set_cons_succ]
  refine wpAnyH_take (i := 3) (oi := { dst := some 68, op := Go.Op.indexAddr 31 (Go.Operand.tmp 6) (Go.Operand.tmp 67), type := 0, pos := "law.go:66", after := #[{ on := 2, ground := Go.Ground.data }], guard := none }) (v := ?_) rfl (by kernel_rfl) (by kernel_rfl) (by kernel_rfl) (fun _ _ _ h => h) (Or.inl ⟨by rfl, ?_⟩) (Below.refl _ _) ?_
  rotate_left
  · intro W hW
    clear hW
    go_simp
    all_goals with_reducible rfl
  try simp only [Act.put, List.setIfInBounds_toArray, List.set_cons_zero, List.set_cons_succ]
  refine wpAnyH_take (i := 4) (oi := { dst := some 69, op := Go.Op.load 5 (Go.Operand.tmp 68), type := 5, pos := "law.go:66", after := #[{ on := 3, ground := Go.Ground.data }], guard := none }) (v := ?_) rfl (by kernel_rfl) (by kernel_rfl) (by kernel_rfl) (fun _ _ _ h => h) (Or.inl ⟨by rfl, ?_⟩) (Below.refl _ _) ?_
  rotate_left
  · intro W hW
    have hld := (Below.cell hW hB0).trans cB0
    clear hW
    go_simp
    all_goals with_reducible rfl
  try simp only [Act.put, List.setIfInBounds_toArray, List.set_cons_zero, List.set_cons_succ]
  refine wpAnyH_take (i := 5) (oi := { dst := some 70, op := Go.Op.binOp Go.BinOp.rem 5 (Go.Operand.tmp 69) (Go.Operand.const (Go.Value.int Go.IntKind.u8 3)) 5, type := 5, pos := "law.go:66", after := #[{ on := 4, ground := Go.Ground.data }], guard := none }) (v := ?_) rfl (by kernel_rfl) (by kernel_rfl) (by kernel_rfl) (fun _ _ _ h => h) (Or.inl ⟨by rfl, ?_⟩) (Below.refl _ _) ?_
  rotate_left
  · intro W hW
    clear hW
    go_simp
    all_goals with_reducible rfl
  try simp only [Act.put, List.setIfInBounds_toArray, List.set_cons_zero, List.set_cons_succ]
  refine wpAnyH_take (i := 8) (oi := { dst := some 73, op := Go.Op.move (Go.Operand.tmp 13), type := 32, pos := "law.go:66", after := #[], guard := none }) (v := ?_) rfl (by kernel_rfl) (by kernel_rfl) (by kernel_rfl) (fun _ _ _ h => h) (Or.inl ⟨by rfl, ?_⟩) (Below.refl _ _) ?_
  rotate_left
  · intro W hW
    clear hW
    go_simp
    all_goals with_reducible rfl
  try simp only [Act.put, List.setIfInBounds_toArray, List.set_cons_zero, List.set_cons_succ]
  refine wpAnyH_take (i := 10) (oi := { dst := some 75, op := Go.Op.move (Go.Operand.tmp 12), type := 3, pos := "law.go:66", after := #[], guard := none }) (v := ?_) rfl (by kernel_rfl) (by kernel_rfl) (by kernel_rfl) (fun _ _ _ h => h) (Or.inl ⟨by rfl, ?_⟩) (Below.refl _ _) ?_
  rotate_left
  · intro W hW
    clear hW
    go_simp
    all_goals with_reducible rfl
  try simp only [Act.put, List.setIfInBounds_toArray, List.set_cons_zero, List.set_cons_succ]
  refine wpAnyH_take (i := 11) (oi := { dst := some 76, op := Go.Op.indexAddr 31 (Go.Operand.tmp 6) (Go.Operand.tmp 75), type := 0, pos := "law.go:66", after := #[{ on := 10, ground := Go.Ground.data }], guard := none }) (v := ?_) rfl (by kernel_rfl) (by kernel_rfl) (by kernel_rfl) (fun _ _ _ h => h) (Or.inl ⟨by rfl, ?_⟩) (Below.refl _ _) ?_
  rotate_left
  · intro W hW
    clear hW
    go_simp
    all_goals with_reducible rfl
  try simp only [Act.put, List.setIfInBounds_toArray, List.set_cons_zero, List.set_cons_succ]
  refine wpAnyH_take (i := 12) (oi := { dst := some 77, op := Go.Op.load 5 (Go.Operand.tmp 76), type := 5, pos := "law.go:66", after := #[{ on := 11, ground := Go.Ground.data }], guard := none }) (v := ?_) rfl (by kernel_rfl) (by kernel_rfl) (by kernel_rfl) (fun _ _ _ h => h) (Or.inl ⟨by rfl, ?_⟩) (Below.refl _ _) ?_
  rotate_left
  · intro W hW
    have hld := (Below.cell hW hB0).trans cB0
    clear hW
    go_simp
    all_goals with_reducible rfl
  try simp only [Act.put, List.setIfInBounds_toArray, List.set_cons_zero, List.set_cons_succ]
  refine wpAnyH_take (i := 13) (oi := { dst := some 78, op := Go.Op.binOp Go.BinOp.rem 5 (Go.Operand.tmp 77) (Go.Operand.const (Go.Value.int Go.IntKind.u8 3)) 5, type := 5, pos := "law.go:66", after := #[{ on := 12, ground := Go.Ground.data }], guard := none }) (v := ?_) rfl (by kernel_rfl) (by kernel_rfl) (by kernel_rfl) (fun _ _ _ h => h) (Or.inl ⟨by rfl, ?_⟩) (Below.refl _ _) ?_
  rotate_left
  · intro W hW
    clear hW
    go_simp
    all_goals with_reducible rfl
  try simp only [Act.put, List.setIfInBounds_toArray, List.set_cons_zero, List.set_cons_succ]
  refine wpAnyH_ready (rs := [1, 9]) (by kernel_rfl) (by simp) ?_
  refine AllReadyH.cons (o := { dst := some 66, op := Go.Op.buildSlice 33 3 #[(0, Go.Operand.const (Go.Value.string { data := #[] })), (1, Go.Operand.const (Go.Value.string { data := #[48] })), (2, Go.Operand.const (Go.Value.string { data := #[48, 120] }))], type := 33, pos := "law.go:66", after := #[], guard := none }) rfl (fun K hK => ?_) ?_
  · go_simp
    refine hK.out _ _ ((Below.refl _ _).alloc (Nat.le_refl _) _) (fun _ => ?_)
    clear hK K
    try simp only [Act.put, List.setIfInBounds_toArray, List.set_cons_zero, List.set_cons_succ]
    refine wpAnyH_move ((Below.refl _ _).alloc (Nat.le_refl _) _) ?_
    obtain ⟨W1, hW⟩ : ∃ W', W' = W0.alloc (.cells #[Go.Value.string { data := #[] }, Go.Value.string { data := #[48] }, Go.Value.string { data := #[48, 120] }] 9) := ⟨_, rfl⟩
    rw [← hW]
    have cS1 : W1.cell? ⟨W0.heap.size, 2, none⟩ = some (.string (pfxB 2)) := by rw [hW, World.cell?_alloc_new]; rfl
    have hS1 : W0.heap.size < W1.heap.size := by rw [hW]; simp
    have hk : Below W0.heap.size W0 W1 := by rw [hW]; exact (Below.refl _ _).alloc (Nat.le_refl _) _
    clear hW
    have HW1 := Aside0.mk (below_then HW0.out HW0.out.size hk)
    have cB1 := (hk.cell hB0).trans cB0
    have hB1 := Nat.lt_of_lt_of_le hB0 hk.size
    clear hk
    clear cB0
    refine wpAnyH_take (i := 6) (oi := { dst := some 71, op := Go.Op.indexAddr 33 (Go.Operand.tmp 66) (Go.Operand.tmp 70), type := 0, pos := "law.go:66", after := #[{ on := 1, ground := Go.Ground.data }, { on := 5, ground := Go.Ground.data }], guard := none }) (v := ?_) rfl (by kernel_rfl) (by kernel_rfl) (by kernel_rfl) (fun _ _ _ h => h) (Or.inl ⟨by rfl, ?_⟩) (Below.refl _ _) ?_
    rotate_left
    · intro W hW
      clear hW
      go_simp
      all_goals with_reducible rfl
    try simp only [Act.put, List.setIfInBounds_toArray, List.set_cons_zero, List.set_cons_succ]
    refine wpAnyH_take (i := 7) (oi := { dst := some 72, op := Go.Op.load 9 (Go.Operand.tmp 71), type := 9, pos := "law.go:66", after := #[{ on := 6, ground := Go.Ground.data }], guard := none }) (v := ?_) rfl (by kernel_rfl) (by kernel_rfl) (by kernel_rfl) (fun _ _ _ h => h) (Or.inl ⟨by rfl, ?_⟩) (Below.refl _ _) ?_
    rotate_left
    · intro W hW
      have hld := (Below.cell hW hS1).trans cS1
      clear hW
      go_simp
      all_goals with_reducible rfl
    try simp only [Act.put, List.setIfInBounds_toArray, List.set_cons_zero, List.set_cons_succ]
    refine wpAnyH_ready (rs := [9]) (by kernel_rfl) (by simp) ?_
    refine AllReadyH.cons (o := { dst := some 74, op := Go.Op.buildSlice 35 3 #[(0, Go.Operand.const (Go.Value.int Go.IntKind.i64 10)), (1, Go.Operand.const (Go.Value.int Go.IntKind.i64 8)), (2, Go.Operand.const (Go.Value.int Go.IntKind.i64 16))], type := 35, pos := "law.go:66", after := #[], guard := none }) rfl (fun K hK => ?_) ?_
    · go_simp
      refine hK.out _ _ ((Below.refl _ _).alloc (Nat.le_refl _) _) (fun _ => ?_)
      clear hK K
      try simp only [Act.put, List.setIfInBounds_toArray, List.set_cons_zero, List.set_cons_succ]
      refine wpAnyH_move ((Below.refl _ _).alloc (Nat.le_refl _) _) ?_
      obtain ⟨W2, hW⟩ : ∃ W', W' = W1.alloc (.cells #[Go.Value.int Go.IntKind.i64 10, Go.Value.int Go.IntKind.i64 8, Go.Value.int Go.IntKind.i64 16] 3) := ⟨_, rfl⟩
      rw [← hW]
      have cI2 : W2.cell? ⟨W1.heap.size, 2, none⟩ = some (.int .i64 16) := by rw [hW, World.cell?_alloc_new]; rfl
      have hI2 : W1.heap.size < W2.heap.size := by rw [hW]; simp
      have hk : Below W1.heap.size W1 W2 := by rw [hW]; exact (Below.refl _ _).alloc (Nat.le_refl _) _
      clear hW
      have HW2 := Aside0.mk (below_then HW1.out HW1.out.size hk)
      have cB2 := (hk.cell hB1).trans cB1
      have hB2 := Nat.lt_of_lt_of_le hB1 hk.size
      have cS2 := (hk.cell hS1).trans cS1
      have hS2 := Nat.lt_of_lt_of_le hS1 hk.size
      clear hk
      clear cB1 cS1
      refine wpAnyH_take (i := 14) (oi := { dst := some 79, op := Go.Op.indexAddr 35 (Go.Operand.tmp 74) (Go.Operand.tmp 78), type := 0, pos := "law.go:66", after := #[{ on := 9, ground := Go.Ground.data }, { on := 13, ground := Go.Ground.data }], guard := none }) (v := ?_) rfl (by kernel_rfl) (by kernel_rfl) (by kernel_rfl) (fun _ _ _ h => h) (Or.inl ⟨by rfl, ?_⟩) (Below.refl _ _) ?_
      rotate_left
      · intro W hW
        clear hW
        go_simp
        all_goals with_reducible rfl
      try simp only [Act.put, List.setIfInBounds_toArray, List.set_cons_zero, List.set_cons_succ]
      refine wpAnyH_take (i := 15) (oi := { dst := some 80, op := Go.Op.load 3 (Go.Operand.tmp 79), type := 3, pos := "law.go:66", after := #[{ on := 14, ground := Go.Ground.data }], guard := none }) (v := ?_) rfl (by kernel_rfl) (by kernel_rfl) (by kernel_rfl) (fun _ _ _ h => h) (Or.inl ⟨by rfl, ?_⟩) (Below.refl _ _) ?_
      rotate_left
      · intro W hW
        have hld := (Below.cell hW hI2).trans cI2
        clear hW
        go_simp
        all_goals with_reducible rfl
      try simp only [Act.put, List.setIfInBounds_toArray, List.set_cons_zero, List.set_cons_succ]
      refine wpAnyH_ready (rs := [16]) (by kernel_rfl) (by simp) ?_
      refine AllReadyH.cons (o := { dst := some 81, op := Go.Op.call { callee := Go.Callee.value (Go.Operand.func 16), args := #[Go.Operand.tmp 73, Go.Operand.tmp 80], argTypes := #[32, 3] }, type := 9, pos := "law.go:66", after := #[{ on := 8, ground := Go.Ground.data }, { on := 15, ground := Go.Ground.data }], guard := none }) rfl (fun K hK => ?_) ?_
      · go_simp
        refine (FormatUint_calls 16 (by omega) x hx W2 (hP.out.stays HW2.out) (hT.out.stays HW2.out)).mono ?_
        rintro e W3 ⟨rfl, hk⟩
        rw [← HY.out]
        refine hK.out _ _ hk (fun _ => ?_)
        clear hK K
        try simp only [Act.put, List.setIfInBounds_toArray, List.set_cons_zero, List.set_cons_succ]
        refine wpAnyH_move hk ?_
        have HW3 := Aside0.mk (below_then HW2.out HW2.out.size hk)
        have cB3 := (hk.cell hB2).trans cB2
        have hB3 := Nat.lt_of_lt_of_le hB2 hk.size
        have cI3 := (hk.cell hI2).trans cI2
        have hI3 := Nat.lt_of_lt_of_le hI2 hk.size
        have cS3 := (hk.cell hS2).trans cS2
        have hS3 := Nat.lt_of_lt_of_le hS2 hk.size
        clear hk
        clear cB2 cI2 cS2
        refine wpAnyH_ready (rs := [17]) (by kernel_rfl) (by simp) ?_
        refine AllReadyH.cons (o := { dst := some 82, op := Go.Op.binOp Go.BinOp.add 9 (Go.Operand.tmp 72) (Go.Operand.tmp 81) 9, type := 9, pos := "law.go:66", after := #[{ on := 7, ground := Go.Ground.data }, { on := 16, ground := Go.Ground.data }], guard := none }) rfl (fun K hK => ?_) ?_
        · go_simp
          go_wp2_with fail
          refine hK.out _ _ (Below.refl _ _) (fun _ => ?_)
          clear hK K
          try simp only [Act.put, List.setIfInBounds_toArray, List.set_cons_zero, List.set_cons_succ]
          refine wpAnyH_ready (rs := [18]) (by kernel_rfl) (by simp) ?_
          refine AllReadyH.cons (o := { dst := some 83, op := Go.Op.binOp Go.BinOp.add 9 (Go.Operand.tmp 65) (Go.Operand.tmp 82) 9, type := 9, pos := "law.go:66", after := #[{ on := 0, ground := Go.Ground.data }, { on := 17, ground := Go.Ground.data }], guard := none }) rfl (fun K hK => ?_) ?_
          · go_simp
            go_wp2_with fail
            refine hK.out _ _ (Below.refl _ _) (fun _ => ?_)
            clear hK K
            try simp only [Act.put, List.setIfInBounds_toArray, List.set_cons_zero, List.set_cons_succ]
            refine wpAnyH_ready (rs := [19]) (by kernel_rfl) (by simp) ?_
            refine AllReadyH.cons (o := { dst := some 10, op := Go.Op.assign (Go.Operand.tmp 83), type := 9, pos := "law.go:66", after := #[{ on := 18, ground := Go.Ground.data }, { on := 16, ground := Go.Ground.chain }, { on := 0, ground := Go.Ground.phase }, { on := 1, ground := Go.Ground.phase }, { on := 2, ground := Go.Ground.phase }, { on := 3, ground := Go.Ground.phase }, { on := 4, ground := Go.Ground.phase }, { on := 5, ground := Go.Ground.phase }, { on := 6, ground := Go.Ground.phase }, { on := 7, ground := Go.Ground.phase }, { on := 8, ground := Go.Ground.phase }, { on := 9, ground := Go.Ground.phase }, { on := 10, ground := Go.Ground.phase }, { on := 11, ground := Go.Ground.phase }, { on := 12, ground := Go.Ground.phase }, { on := 13, ground := Go.Ground.phase }, { on := 14, ground := Go.Ground.phase }, { on := 15, ground := Go.Ground.phase }, { on := 16, ground := Go.Ground.phase }, { on := 17, ground := Go.Ground.phase }, { on := 18, ground := Go.Ground.phase }], guard := none }) rfl (fun K hK => ?_) ?_
            · go_simp
              refine hK.out _ _ (Below.refl _ _) (fun _ => ?_)
              clear hK K
              try simp only [Act.put, List.setIfInBounds_toArray, List.set_cons_zero, List.set_cons_succ]
              refine wpAnyH_done (by kernel_rfl) ?_ _
              exact HQ.out _ _ _ _ _ _ _ _ _ _ _ _ _ _ _ _ _ _ _ W3 HW3.out
            exact AllReadyH.nil
          exact AllReadyH.nil
        exact AllReadyH.nil
      exact AllReadyH.nil
    exact AllReadyH.nil
  refine AllReadyH.cons (o := { dst := some 74, op := Go.Op.buildSlice 35 3 #[(0, Go.Operand.const (Go.Value.int Go.IntKind.i64 10)), (1, Go.Operand.const (Go.Value.int Go.IntKind.i64 8)), (2, Go.Operand.const (Go.Value.int Go.IntKind.i64 16))], type := 35, pos := "law.go:66", after := #[], guard := none }) rfl (fun K hK => ?_) ?_
  · go_simp
    refine hK.out _ _ ((Below.refl _ _).alloc (Nat.le_refl _) _) (fun _ => ?_)
    clear hK K
    try simp only [Act.put, List.setIfInBounds_toArray, List.set_cons_zero, List.set_cons_succ]
    refine wpAnyH_move ((Below.refl _ _).alloc (Nat.le_refl _) _) ?_
    obtain ⟨W1, hW⟩ : ∃ W', W' = W0.alloc (.cells #[Go.Value.int Go.IntKind.i64 10, Go.Value.int Go.IntKind.i64 8, Go.Value.int Go.IntKind.i64 16] 3) := ⟨_, rfl⟩
    rw [← hW]
    have cI1 : W1.cell? ⟨W0.heap.size, 2, none⟩ = some (.int .i64 16) := by rw [hW, World.cell?_alloc_new]; rfl
    have hI1 : W0.heap.size < W1.heap.size := by rw [hW]; simp
    have hk : Below W0.heap.size W0 W1 := by rw [hW]; exact (Below.refl _ _).alloc (Nat.le_refl _) _
    clear hW
    have HW1 := Aside0.mk (below_then HW0.out HW0.out.size hk)
    have cB1 := (hk.cell hB0).trans cB0
    have hB1 := Nat.lt_of_lt_of_le hB0 hk.size
    clear hk
    clear cB0
    refine wpAnyH_take (i := 14) (oi := { dst := some 79, op := Go.Op.indexAddr 35 (Go.Operand.tmp 74) (Go.Operand.tmp 78), type := 0, pos := "law.go:66", after := #[{ on := 9, ground := Go.Ground.data }, { on := 13, ground := Go.Ground.data }], guard := none }) (v := ?_) rfl (by kernel_rfl) (by kernel_rfl) (by kernel_rfl) (fun _ _ _ h => h) (Or.inl ⟨by rfl, ?_⟩) (Below.refl _ _) ?_
    rotate_left
    · intro W hW
      clear hW
      go_simp
      all_goals with_reducible rfl
    try simp only [Act.put, List.setIfInBounds_toArray, List.set_cons_zero, List.set_cons_succ]
    refine wpAnyH_take (i := 15) (oi := { dst := some 80, op := Go.Op.load 3 (Go.Operand.tmp 79), type := 3, pos := "law.go:66", after := #[{ on := 14, ground := Go.Ground.data }], guard := none }) (v := ?_) rfl (by kernel_rfl) (by kernel_rfl) (by kernel_rfl) (fun _ _ _ h => h) (Or.inl ⟨by rfl, ?_⟩) (Below.refl _ _) ?_
    rotate_left
    · intro W hW
      have hld := (Below.cell hW hI1).trans cI1
      clear hW
      go_simp
      all_goals with_reducible rfl
    try simp only [Act.put, List.setIfInBounds_toArray, List.set_cons_zero, List.set_cons_succ]
    refine wpAnyH_ready (rs := [1, 16]) (by kernel_rfl) (by simp) ?_
    refine AllReadyH.cons (o := { dst := some 66, op := Go.Op.buildSlice 33 3 #[(0, Go.Operand.const (Go.Value.string { data := #[] })), (1, Go.Operand.const (Go.Value.string { data := #[48] })), (2, Go.Operand.const (Go.Value.string { data := #[48, 120] }))], type := 33, pos := "law.go:66", after := #[], guard := none }) rfl (fun K hK => ?_) ?_
    · go_simp
      refine hK.out _ _ ((Below.refl _ _).alloc (Nat.le_refl _) _) (fun _ => ?_)
      clear hK K
      try simp only [Act.put, List.setIfInBounds_toArray, List.set_cons_zero, List.set_cons_succ]
      refine wpAnyH_move ((Below.refl _ _).alloc (Nat.le_refl _) _) ?_
      obtain ⟨W2, hW⟩ : ∃ W', W' = W1.alloc (.cells #[Go.Value.string { data := #[] }, Go.Value.string { data := #[48] }, Go.Value.string { data := #[48, 120] }] 9) := ⟨_, rfl⟩
      rw [← hW]
      have cS2 : W2.cell? ⟨W1.heap.size, 2, none⟩ = some (.string (pfxB 2)) := by rw [hW, World.cell?_alloc_new]; rfl
      have hS2 : W1.heap.size < W2.heap.size := by rw [hW]; simp
      have hk : Below W1.heap.size W1 W2 := by rw [hW]; exact (Below.refl _ _).alloc (Nat.le_refl _) _
      clear hW
      have HW2 := Aside0.mk (below_then HW1.out HW1.out.size hk)
      have cB2 := (hk.cell hB1).trans cB1
      have hB2 := Nat.lt_of_lt_of_le hB1 hk.size
      have cI2 := (hk.cell hI1).trans cI1
      have hI2 := Nat.lt_of_lt_of_le hI1 hk.size
      clear hk
      clear cB1 cI1
      refine wpAnyH_take (i := 6) (oi := { dst := some 71, op := Go.Op.indexAddr 33 (Go.Operand.tmp 66) (Go.Operand.tmp 70), type := 0, pos := "law.go:66", after := #[{ on := 1, ground := Go.Ground.data }, { on := 5, ground := Go.Ground.data }], guard := none }) (v := ?_) rfl (by kernel_rfl) (by kernel_rfl) (by kernel_rfl) (fun _ _ _ h => h) (Or.inl ⟨by rfl, ?_⟩) (Below.refl _ _) ?_
      rotate_left
      · intro W hW
        clear hW
        go_simp
        all_goals with_reducible rfl
      try simp only [Act.put, List.setIfInBounds_toArray, List.set_cons_zero, List.set_cons_succ]
      refine wpAnyH_take (i := 7) (oi := { dst := some 72, op := Go.Op.load 9 (Go.Operand.tmp 71), type := 9, pos := "law.go:66", after := #[{ on := 6, ground := Go.Ground.data }], guard := none }) (v := ?_) rfl (by kernel_rfl) (by kernel_rfl) (by kernel_rfl) (fun _ _ _ h => h) (Or.inl ⟨by rfl, ?_⟩) (Below.refl _ _) ?_
      rotate_left
      · intro W hW
        have hld := (Below.cell hW hS2).trans cS2
        clear hW
        go_simp
        all_goals with_reducible rfl
      try simp only [Act.put, List.setIfInBounds_toArray, List.set_cons_zero, List.set_cons_succ]
      refine wpAnyH_ready (rs := [16]) (by kernel_rfl) (by simp) ?_
      refine AllReadyH.cons (o := { dst := some 81, op := Go.Op.call { callee := Go.Callee.value (Go.Operand.func 16), args := #[Go.Operand.tmp 73, Go.Operand.tmp 80], argTypes := #[32, 3] }, type := 9, pos := "law.go:66", after := #[{ on := 8, ground := Go.Ground.data }, { on := 15, ground := Go.Ground.data }], guard := none }) rfl (fun K hK => ?_) ?_
      · go_simp
        refine (FormatUint_calls 16 (by omega) x hx W2 (hP.out.stays HW2.out) (hT.out.stays HW2.out)).mono ?_
        rintro e W3 ⟨rfl, hk⟩
        rw [← HY.out]
        refine hK.out _ _ hk (fun _ => ?_)
        clear hK K
        try simp only [Act.put, List.setIfInBounds_toArray, List.set_cons_zero, List.set_cons_succ]
        refine wpAnyH_move hk ?_
        have HW3 := Aside0.mk (below_then HW2.out HW2.out.size hk)
        have cB3 := (hk.cell hB2).trans cB2
        have hB3 := Nat.lt_of_lt_of_le hB2 hk.size
        have cI3 := (hk.cell hI2).trans cI2
        have hI3 := Nat.lt_of_lt_of_le hI2 hk.size
        have cS3 := (hk.cell hS2).trans cS2
        have hS3 := Nat.lt_of_lt_of_le hS2 hk.size
        clear hk
        clear cB2 cI2 cS2
        refine wpAnyH_ready (rs := [17]) (by kernel_rfl) (by simp) ?_
        refine AllReadyH.cons (o := { dst := some 82, op := Go.Op.binOp Go.BinOp.add 9 (Go.Operand.tmp 72) (Go.Operand.tmp 81) 9, type := 9, pos := "law.go:66", after := #[{ on := 7, ground := Go.Ground.data }, { on := 16, ground := Go.Ground.data }], guard := none }) rfl (fun K hK => ?_) ?_
        · go_simp
          go_wp2_with fail
          refine hK.out _ _ (Below.refl _ _) (fun _ => ?_)
          clear hK K
          try simp only [Act.put, List.setIfInBounds_toArray, List.set_cons_zero, List.set_cons_succ]
          refine wpAnyH_ready (rs := [18]) (by kernel_rfl) (by simp) ?_
          refine AllReadyH.cons (o := { dst := some 83, op := Go.Op.binOp Go.BinOp.add 9 (Go.Operand.tmp 65) (Go.Operand.tmp 82) 9, type := 9, pos := "law.go:66", after := #[{ on := 0, ground := Go.Ground.data }, { on := 17, ground := Go.Ground.data }], guard := none }) rfl (fun K hK => ?_) ?_
          · go_simp
            go_wp2_with fail
            refine hK.out _ _ (Below.refl _ _) (fun _ => ?_)
            clear hK K
            try simp only [Act.put, List.setIfInBounds_toArray, List.set_cons_zero, List.set_cons_succ]
            refine wpAnyH_ready (rs := [19]) (by kernel_rfl) (by simp) ?_
            refine AllReadyH.cons (o := { dst := some 10, op := Go.Op.assign (Go.Operand.tmp 83), type := 9, pos := "law.go:66", after := #[{ on := 18, ground := Go.Ground.data }, { on := 16, ground := Go.Ground.chain }, { on := 0, ground := Go.Ground.phase }, { on := 1, ground := Go.Ground.phase }, { on := 2, ground := Go.Ground.phase }, { on := 3, ground := Go.Ground.phase }, { on := 4, ground := Go.Ground.phase }, { on := 5, ground := Go.Ground.phase }, { on := 6, ground := Go.Ground.phase }, { on := 7, ground := Go.Ground.phase }, { on := 8, ground := Go.Ground.phase }, { on := 9, ground := Go.Ground.phase }, { on := 10, ground := Go.Ground.phase }, { on := 11, ground := Go.Ground.phase }, { on := 12, ground := Go.Ground.phase }, { on := 13, ground := Go.Ground.phase }, { on := 14, ground := Go.Ground.phase }, { on := 15, ground := Go.Ground.phase }, { on := 16, ground := Go.Ground.phase }, { on := 17, ground := Go.Ground.phase }, { on := 18, ground := Go.Ground.phase }], guard := none }) rfl (fun K hK => ?_) ?_
            · go_simp
              refine hK.out _ _ (Below.refl _ _) (fun _ => ?_)
              clear hK K
              try simp only [Act.put, List.setIfInBounds_toArray, List.set_cons_zero, List.set_cons_succ]
              refine wpAnyH_done (by kernel_rfl) ?_ _
              exact HQ.out _ _ _ _ _ _ _ _ _ _ _ _ _ _ _ _ _ _ _ W3 HW3.out
            exact AllReadyH.nil
          exact AllReadyH.nil
        exact AllReadyH.nil
      exact AllReadyH.nil
    refine AllReadyH.cons (o := { dst := some 81, op := Go.Op.call { callee := Go.Callee.value (Go.Operand.func 16), args := #[Go.Operand.tmp 73, Go.Operand.tmp 80], argTypes := #[32, 3] }, type := 9, pos := "law.go:66", after := #[{ on := 8, ground := Go.Ground.data }, { on := 15, ground := Go.Ground.data }], guard := none }) rfl (fun K hK => ?_) ?_
    · go_simp
      refine (FormatUint_calls 16 (by omega) x hx W1 (hP.out.stays HW1.out) (hT.out.stays HW1.out)).mono ?_
      rintro e W2 ⟨rfl, hk⟩
      rw [← HY.out]
      refine hK.out _ _ hk (fun _ => ?_)
      clear hK K
      try simp only [Act.put, List.setIfInBounds_toArray, List.set_cons_zero, List.set_cons_succ]
      refine wpAnyH_move hk ?_
      have HW2 := Aside0.mk (below_then HW1.out HW1.out.size hk)
      have cB2 := (hk.cell hB1).trans cB1
      have hB2 := Nat.lt_of_lt_of_le hB1 hk.size
      have cI2 := (hk.cell hI1).trans cI1
      have hI2 := Nat.lt_of_lt_of_le hI1 hk.size
      clear hk
      clear cB1 cI1
      refine wpAnyH_ready (rs := [1]) (by kernel_rfl) (by simp) ?_
      refine AllReadyH.cons (o := { dst := some 66, op := Go.Op.buildSlice 33 3 #[(0, Go.Operand.const (Go.Value.string { data := #[] })), (1, Go.Operand.const (Go.Value.string { data := #[48] })), (2, Go.Operand.const (Go.Value.string { data := #[48, 120] }))], type := 33, pos := "law.go:66", after := #[], guard := none }) rfl (fun K hK => ?_) ?_
      · go_simp
        refine hK.out _ _ ((Below.refl _ _).alloc (Nat.le_refl _) _) (fun _ => ?_)
        clear hK K
        try simp only [Act.put, List.setIfInBounds_toArray, List.set_cons_zero, List.set_cons_succ]
        refine wpAnyH_move ((Below.refl _ _).alloc (Nat.le_refl _) _) ?_
        obtain ⟨W3, hW⟩ : ∃ W', W' = W2.alloc (.cells #[Go.Value.string { data := #[] }, Go.Value.string { data := #[48] }, Go.Value.string { data := #[48, 120] }] 9) := ⟨_, rfl⟩
        rw [← hW]
        have cS3 : W3.cell? ⟨W2.heap.size, 2, none⟩ = some (.string (pfxB 2)) := by rw [hW, World.cell?_alloc_new]; rfl
        have hS3 : W2.heap.size < W3.heap.size := by rw [hW]; simp
        have hk : Below W2.heap.size W2 W3 := by rw [hW]; exact (Below.refl _ _).alloc (Nat.le_refl _) _
        clear hW
        have HW3 := Aside0.mk (below_then HW2.out HW2.out.size hk)
        have cB3 := (hk.cell hB2).trans cB2
        have hB3 := Nat.lt_of_lt_of_le hB2 hk.size
        have cI3 := (hk.cell hI2).trans cI2
        have hI3 := Nat.lt_of_lt_of_le hI2 hk.size
        clear hk
        clear cB2 cI2
        refine wpAnyH_take (i := 6) (oi := { dst := some 71, op := Go.Op.indexAddr 33 (Go.Operand.tmp 66) (Go.Operand.tmp 70), type := 0, pos := "law.go:66", after := #[{ on := 1, ground := Go.Ground.data }, { on := 5, ground := Go.Ground.data }], guard := none }) (v := ?_) rfl (by kernel_rfl) (by kernel_rfl) (by kernel_rfl) (fun _ _ _ h => h) (Or.inl ⟨by rfl, ?_⟩) (Below.refl _ _) ?_
        rotate_left
        · intro W hW
          clear hW
          go_simp
          all_goals with_reducible rfl
        try simp only [Act.put, List.setIfInBounds_toArray, List.set_cons_zero, List.set_cons_succ]
        refine wpAnyH_take (i := 7) (oi := { dst := some 72, op := Go.Op.load 9 (Go.Operand.tmp 71), type := 9, pos := "law.go:66", after := #[{ on := 6, ground := Go.Ground.data }], guard := none }) (v := ?_) rfl (by kernel_rfl) (by kernel_rfl) (by kernel_rfl) (fun _ _ _ h => h) (Or.inl ⟨by rfl, ?_⟩) (Below.refl _ _) ?_
        rotate_left
        · intro W hW
          have hld := (Below.cell hW hS3).trans cS3
          clear hW
          go_simp
          all_goals with_reducible rfl
        try simp only [Act.put, List.setIfInBounds_toArray, List.set_cons_zero, List.set_cons_succ]
        refine wpAnyH_ready (rs := [17]) (by kernel_rfl) (by simp) ?_
        refine AllReadyH.cons (o := { dst := some 82, op := Go.Op.binOp Go.BinOp.add 9 (Go.Operand.tmp 72) (Go.Operand.tmp 81) 9, type := 9, pos := "law.go:66", after := #[{ on := 7, ground := Go.Ground.data }, { on := 16, ground := Go.Ground.data }], guard := none }) rfl (fun K hK => ?_) ?_
        · go_simp
          go_wp2_with fail
          refine hK.out _ _ (Below.refl _ _) (fun _ => ?_)
          clear hK K
          try simp only [Act.put, List.setIfInBounds_toArray, List.set_cons_zero, List.set_cons_succ]
          refine wpAnyH_ready (rs := [18]) (by kernel_rfl) (by simp) ?_
          refine AllReadyH.cons (o := { dst := some 83, op := Go.Op.binOp Go.BinOp.add 9 (Go.Operand.tmp 65) (Go.Operand.tmp 82) 9, type := 9, pos := "law.go:66", after := #[{ on := 0, ground := Go.Ground.data }, { on := 17, ground := Go.Ground.data }], guard := none }) rfl (fun K hK => ?_) ?_
          · go_simp
            go_wp2_with fail
            refine hK.out _ _ (Below.refl _ _) (fun _ => ?_)
            clear hK K
            try simp only [Act.put, List.setIfInBounds_toArray, List.set_cons_zero, List.set_cons_succ]
            refine wpAnyH_ready (rs := [19]) (by kernel_rfl) (by simp) ?_
            refine AllReadyH.cons (o := { dst := some 10, op := Go.Op.assign (Go.Operand.tmp 83), type := 9, pos := "law.go:66", after := #[{ on := 18, ground := Go.Ground.data }, { on := 16, ground := Go.Ground.chain }, { on := 0, ground := Go.Ground.phase }, { on := 1, ground := Go.Ground.phase }, { on := 2, ground := Go.Ground.phase }, { on := 3, ground := Go.Ground.phase }, { on := 4, ground := Go.Ground.phase }, { on := 5, ground := Go.Ground.phase }, { on := 6, ground := Go.Ground.phase }, { on := 7, ground := Go.Ground.phase }, { on := 8, ground := Go.Ground.phase }, { on := 9, ground := Go.Ground.phase }, { on := 10, ground := Go.Ground.phase }, { on := 11, ground := Go.Ground.phase }, { on := 12, ground := Go.Ground.phase }, { on := 13, ground := Go.Ground.phase }, { on := 14, ground := Go.Ground.phase }, { on := 15, ground := Go.Ground.phase }, { on := 16, ground := Go.Ground.phase }, { on := 17, ground := Go.Ground.phase }, { on := 18, ground := Go.Ground.phase }], guard := none }) rfl (fun K hK => ?_) ?_
            · go_simp
              refine hK.out _ _ (Below.refl _ _) (fun _ => ?_)
              clear hK K
              try simp only [Act.put, List.setIfInBounds_toArray, List.set_cons_zero, List.set_cons_succ]
              refine wpAnyH_done (by kernel_rfl) ?_ _
              exact HQ.out _ _ _ _ _ _ _ _ _ _ _ _ _ _ _ _ _ _ _ W3 HW3.out
            exact AllReadyH.nil
          exact AllReadyH.nil
        exact AllReadyH.nil
      exact AllReadyH.nil
    exact AllReadyH.nil
  exact AllReadyH.nil
end Go.Proofs.YtfcnfkedoihpoaaDoor
