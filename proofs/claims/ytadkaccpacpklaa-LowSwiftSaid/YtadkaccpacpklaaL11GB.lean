/-
 Each function of the program as a Lean function, and that its calls come to what that says.
-/
import Derived.Test.YtadkaccpacpklaaL11GA
set_option linter.unusedVariables false
set_option linter.unusedSimpArgs false
namespace Go.Dm
open Go.RowKit Go.Proofs
set_option maxRecDepth 100000
noncomputable def c84 : Code := Try.f84.body.getD .skip
theorem at84 : Try.prog.funcs[84]? = some Try.f84 := by kernel_rfl
theorem bd84 : Try.f84.body = some c84 := by kernel_rfl
theorem cl84 : Callable Try.prog 84 := callable_of at84 (by kernel_rfl) (by kernel_rfl)
abbrev a84 : Ty := T91
abbrev r84 : Ty := T0
noncomputable def G84 : Ctx := Ctx.of [(114, .pure k114)]
theorem g84 : Sound Try.prog (G84) := sound_of (List.forall_mem_cons.2 ⟨⟨cl114, h114⟩, fun _ h => by cases h⟩)
noncomputable def b84x0 : Code := loopBody ((loopsOf (c84))[0]?)
theorem lo84x0 : loopsOf (b84x0) = [] := by kernel_rfl
abbrev cs84x0 : List Pat := [.slot 0 (.pc (.sl T0)), .slot 1 (.pc (.sl T0)), .slot 9 (.pc (.sl T0)), .slot 10 (.pc tI)]
abbrev vs84x0 : List Pat := [.slot 11 (.pc tI)]
abbrev ps84x0 : List Pat := cs84x0 ++ vs84x0
def j84x0 : ZJ cs84x0 vs84x0 ps84x0 := ZA _ _
def sp84x0 : ZS cs84x0 vs84x0 ps84x0 := ZP _ _
abbrev wy84x0 : Ways := ⟨[(0, [.slot 0 (.pc (.sl T0)), .slot 1 (.pc (.sl T0))])], [.slot 4 (.pc tI)], []⟩
abbrev wv84x0 : Ways := ⟨[(0, [])], [.slot 4 (.pc tI)], []⟩
def je84x0 : ZE cs84x0 wv84x0 wy84x0 := fun id => match id with | 0 => fun c y => (c.1, (c.2.1, y)) | _ => ZDf
def Z84x0 {α : Type} (l : RQ vs84x0 wv84x0 → α) (an : α → α → α) (c : ZD cs84x0) (v : ZD vs84x0) : α := bif (decide (v.1 < c.2.2.2.1)) then bif (decide (((0 : Int) ≤ v.1) ∧ (v.1 < ((c.2.2.1.n : Nat) : Int)))) then bif (decide (((c.2.1.n : Nat) : Int) ≤ v.1)) then l (.out (.ret ((1 : Int), ()))) else bif (decide (((0 : Int) ≤ v.1) ∧ (v.1 < ((c.2.1.n : Nat) : Int)))) then cl (r114).dflt (M114 ((c.2.2.1.g (Int.toNat v.1)).1, (c.2.1.g (Int.toNat v.1)))) (fun u0 => bif (!(decide (u0.1 = (0 : Int)))) then l (.out (.ret u0)) else l (.next ((W (v.1 + (1 : Int))), ()))) (l .bad) else l .bad else l .bad else l (.out (.exit 0 ()))
theorem z84x0 (c : ZD cs84x0) (v : ZD vs84x0) : roundQ Try.prog E0 G84 0 36 [] ps84x0 wy84x0 b84x0 [] (j84x0 c v) = Z84x0 (fun r => .leaf (r.lift j84x0 je84x0 ZI ZI c)) .any c v := by kernel_rfl
def S84x0 (c : ZD cs84x0) (v : ZD vs84x0) : RQ vs84x0 wv84x0 := Z84x0 (fun r => r) (fun _ _ => .bad) c v
theorem s84x0 (c : ZD cs84x0) (v : ZD vs84x0) : detQ (roundQ Try.prog E0 G84 0 36 [] ps84x0 wy84x0 b84x0 [] (j84x0 c v)) = (S84x0 c v).lift j84x0 je84x0 ZI ZI c := by rw [z84x0]; unfold S84x0 Z84x0; simp only [detQ, lift_bad, dqs]
def L84x0 (c : ZD cs84x0) (v : ZD vs84x0) : LQ wv84x0 := iterQ (S84x0 c) big v
theorem lo84 : loopsOf (c84) = [.loop b84x0] := by kernel_rfl
noncomputable def l84 : List Loop := [.known (loopZ 0 [] ps84x0 fun x => spreadV wy84x0 je84x0 ZI ZI [] true (sp84x0 x).1 (L84x0 (sp84x0 x).1 (sp84x0 x).2) wy84x0.exits)]
def Q84 {α : Type} (l : Option (r84).den → α) (an : α → α → α) (x : (a84).den) : α := onExit (L84x0 (x.1, (x.2.1, (x.1, (((x.1.n : Nat) : Int), ())))) ((0 : Int), ())) 0 (fun u1 => bif (decide (((x.1.n : Nat) : Int) < ((x.2.1.n : Nat) : Int))) then l (some ((-1 : Int), ())) else l (some ((0 : Int), ()))) (onRet (L84x0 (x.1, (x.2.1, (x.1, (((x.1.n : Nat) : Int), ())))) ((0 : Int), ())) (fun u2 => l (some u2)) (l none))
theorem q84 (x : (a84).den) : runFn Try.prog E0 G84 Try.f84 l84 a84 r84 x = Q84 .leaf .any x := by kernel_rfl
def M84 (x : (a84).den) : Option (r84).den := Q84 (fun r => r) (fun _ _ => none) x
theorem m84 (x : (a84).den) : (runFn Try.prog E0 G84 Try.f84 l84 a84 r84 x).sure = M84 x := by rw [q84]; unfold M84 Q84; simp only [Tree.sure, sus]
def p84 (x : (a84).den) : Bool := (M84 x).isSome
def v84 (x : (a84).den) : (r84).den := (M84 x).getD (r84).dflt
def k84 : Con := ⟨a84, r84, p84, v84⟩
theorem h84 : Holds Try.prog 84 k84 := holds_of_M' (E := E0) follows_ok g84 eqTy_sound keyTy_sound at84 bd84 (by kernel_rfl) m84 fun G' hlo hF hE => LsOK_kn (by rw [lo84]; exact .cons (loopV_ok hE hF hlo (LsOK_kn (by rw [lo84x0]; exact .nil)) (by kernel_rfl) (by kernel_rfl) sp84x0 (fun _ => rfl) (fun _ _ => rfl) (s84x0) big) (.nil))
noncomputable def c83 : Code := Try.f83.body.getD .skip
theorem at83 : Try.prog.funcs[83]? = some Try.f83 := by kernel_rfl
theorem bd83 : Try.f83.body = some c83 := by kernel_rfl
theorem cl83 : Callable Try.prog 83 := callable_of at83 (by kernel_rfl) (by kernel_rfl)
def so_ren : Go.Shelf.Ren := ⟨fun x => match x with | 6 => 83 | 15 => 113 | 14 => 112 | 28 => 130 | 29 => 131 | 20 => 122 | 21 => 123 | 22 => 124 | 23 => 125 | 24 => 126 | 25 => 127 | 26 => 128 | 27 => 129 | 46 => 136 | 47 => 137 | 48 => 138 | 49 => 139 | 50 => 140 | 57 => 141 | n => n, fun x => match x with | 22 => 58 | 24 => 79 | 25 => 113 | 3 => 3 | 39 => 140 | 0 => 0 | 53 => 160 | 55 => 162 | 4 => 4 | 46 => 153 | 45 => 152 | 50 => 157 | 5 => 5 | 9 => 9 | 66 => 165 | 70 => 169 | 76 => 171 | 77 => 172 | n => n, fun n => n⟩
theorem so_lay : Go.Proofs.SlLaysF.n6 Try.prog so_ren := { mixed := follows_ok, f6 := ⟨Try.f83.name, by kernel_rfl, by kernel_rfl⟩, f14 := ⟨Try.f112.name, by kernel_rfl, by kernel_rfl⟩, f15 := by kernel_rfl, f20 := ⟨Try.f122.name, by kernel_rfl, by kernel_rfl⟩, f21 := ⟨Try.f123.name, by kernel_rfl, by kernel_rfl⟩, f22 := ⟨Try.f124.name, by kernel_rfl, by kernel_rfl⟩, f23 := ⟨Try.f125.name, by kernel_rfl, by kernel_rfl⟩, f24 := ⟨Try.f126.name, by kernel_rfl, by kernel_rfl⟩, f25 := ⟨Try.f127.name, by kernel_rfl, by kernel_rfl⟩, f26 := ⟨Try.f128.name, by kernel_rfl, by kernel_rfl⟩, f27 := ⟨Try.f129.name, by kernel_rfl, by kernel_rfl⟩, f28 := by kernel_rfl, f29 := by kernel_rfl, f46 := ⟨Try.f136.name, by kernel_rfl, by kernel_rfl⟩, f47 := by kernel_rfl, f48 := by kernel_rfl, f49 := ⟨Try.f139.name, by kernel_rfl, by kernel_rfl⟩, f50 := ⟨Try.f140.name, by kernel_rfl, by kernel_rfl⟩, f57 := ⟨Try.f141.name, by kernel_rfl, by kernel_rfl⟩, t0 := Try.underlying0, a0 := Try.isAgg0, z0 := Try.sizeOf0, v0 := Try.zeroValue0, t3 := Try.underlying3, a3 := Try.isAgg3, z3 := Try.sizeOf3, v3 := Try.zeroValue3, t4 := Try.underlying4, a4 := Try.isAgg4, z4 := Try.sizeOf4, v4 := Try.zeroValue4, t5 := Try.underlying5, a5 := Try.isAgg5, z5 := Try.sizeOf5, v5 := Try.zeroValue5, t9 := Try.underlying9, a9 := Try.isAgg9, z9 := Try.sizeOf9, v9 := Try.zeroValue9, t22 := Try.underlying58, a22 := Try.isAgg58, z22 := Try.sizeOf58, v22 := Try.zeroValue58, a24 := Try.isAgg79, z24 := Try.sizeOf79, t25 := Try.underlying113, a25 := Try.isAgg113, z25 := Try.sizeOf113, v25 := Try.zeroValue113, t39 := Try.underlying140, a39 := Try.isAgg140, z39 := Try.sizeOf140, v39 := Try.zeroValue140, t45 := Try.underlying152, a45 := Try.isAgg152, z45 := Try.sizeOf152, v45 := Try.zeroValue152, t46 := Try.underlying153, a46 := Try.isAgg153, z46 := Try.sizeOf153, v46 := Try.zeroValue153, t50 := Try.underlying157, a50 := Try.isAgg157, z50 := Try.sizeOf157, v50 := Try.zeroValue157, t53 := Try.underlying160, a53 := Try.isAgg160, z53 := Try.sizeOf160, v53 := Try.zeroValue160, t55 := Try.underlying162, a55 := Try.isAgg162, z55 := Try.sizeOf162, v55 := Try.zeroValue162, t66 := Try.underlying165, a66 := Try.isAgg165, z66 := Try.sizeOf165, v66 := Try.zeroValue165, t70 := Try.underlying169, a70 := Try.isAgg169, z70 := Try.sizeOf169, v70 := Try.zeroValue169, t76 := Try.underlying171, a76 := Try.isAgg171, z76 := Try.sizeOf171, v76 := Try.zeroValue171, t77 := Try.underlying172, a77 := Try.isAgg172, z77 := Try.sizeOf172, v77 := Try.zeroValue172 }
theorem sh83 : GHolds Try.prog 83 (sortD1 84 (.sl tL1) p84 v84) := sortD1xholds (ρr := so_ren) so_lay cl84 rfl h84
theorem gbad84 : GHolds Try.prog 84 (fun _ _ _ _ => .leaf .bad) := fun _ _ _ _ _ _ _ _ _ _ _ _ _ _ _ _ hall => absurd rfl (hall .bad rfl)
noncomputable def c86 : Code := Try.f86.body.getD .skip
theorem at86 : Try.prog.funcs[86]? = some Try.f86 := by kernel_rfl
theorem bd86 : Try.f86.body = some c86 := by kernel_rfl
theorem cl86 : Callable Try.prog 86 := callable_of at86 (by kernel_rfl) (by kernel_rfl)
abbrev a86 : Ty := T91
abbrev r86 : Ty := T3
noncomputable def G86 : Ctx := Ctx.of []
theorem g86 : Sound Try.prog (G86) := sound_of (fun _ h => by cases h)
noncomputable def b86x0 : Code := loopBody ((loopsOf (c86))[0]?)
theorem lo86x0 : loopsOf (b86x0) = [] := by kernel_rfl
abbrev cs86x0 : List Pat := [.slot 0 (.pc (.sl T0)), .slot 1 (.pc (.sl T0)), .slot 12 (.pc tI)]
abbrev vs86x0 : List Pat := [.slot 13 (.pc tI)]
abbrev ps86x0 : List Pat := cs86x0 ++ vs86x0
def j86x0 : ZJ cs86x0 vs86x0 ps86x0 := ZA _ _
def sp86x0 : ZS cs86x0 vs86x0 ps86x0 := ZP _ _
abbrev wy86x0 : Ways := ⟨[(0, [])], [.slot 4 (.pc .bool)], []⟩
abbrev wv86x0 : Ways := ⟨[(0, [])], [.slot 4 (.pc .bool)], []⟩
def je86x0 : ZE cs86x0 wv86x0 wy86x0 := fun id => match id with | 0 => fun c y => y | _ => ZDf
def Z86x0 {α : Type} (l : RQ vs86x0 wv86x0 → α) (an : α → α → α) (c : ZD cs86x0) (v : ZD vs86x0) : α := bif (decide (v.1 < c.2.2.1)) then bif (decide (((0 : Int) ≤ v.1) ∧ (v.1 < ((c.1.n : Nat) : Int)))) then bif (decide (((0 : Int) ≤ v.1) ∧ (v.1 < ((c.2.1.n : Nat) : Int)))) then bif (!(decide ((c.1.g (Int.toNat v.1)).1 = (c.2.1.g (Int.toNat v.1)).1))) then l (.out (.ret (false, ()))) else l (.next ((W (v.1 + (1 : Int))), ())) else l .bad else l .bad else l (.out (.exit 0 ()))
theorem z86x0 (c : ZD cs86x0) (v : ZD vs86x0) : roundQ Try.prog E0 G86 0 26 [] ps86x0 wy86x0 b86x0 [] (j86x0 c v) = Z86x0 (fun r => .leaf (r.lift j86x0 je86x0 ZI ZI c)) .any c v := by kernel_rfl
def S86x0 (c : ZD cs86x0) (v : ZD vs86x0) : RQ vs86x0 wv86x0 := Z86x0 (fun r => r) (fun _ _ => .bad) c v
theorem s86x0 (c : ZD cs86x0) (v : ZD vs86x0) : detQ (roundQ Try.prog E0 G86 0 26 [] ps86x0 wy86x0 b86x0 [] (j86x0 c v)) = (S86x0 c v).lift j86x0 je86x0 ZI ZI c := by rw [z86x0]; unfold S86x0 Z86x0; simp only [detQ, lift_bad, dqs]
def L86x0 (c : ZD cs86x0) (v : ZD vs86x0) : LQ wv86x0 := iterQ (S86x0 c) big v
theorem lo86 : loopsOf (c86) = [.loop b86x0] := by kernel_rfl
noncomputable def l86 : List Loop := [.known (loopZ 0 [] ps86x0 fun x => spreadV wy86x0 je86x0 ZI ZI [] true (sp86x0 x).1 (L86x0 (sp86x0 x).1 (sp86x0 x).2) wy86x0.exits)]
def Q86 {α : Type} (l : Option (r86).den → α) (an : α → α → α) (x : (a86).den) : α := bif (!(decide (((x.1.n : Nat) : Int) = ((x.2.1.n : Nat) : Int)))) then l (some (false, ())) else onExit (L86x0 (x.1, (x.2.1, (((x.1.n : Nat) : Int), ()))) ((0 : Int), ())) 0 (fun u0 => l (some (true, ()))) (onRet (L86x0 (x.1, (x.2.1, (((x.1.n : Nat) : Int), ()))) ((0 : Int), ())) (fun u1 => l (some u1)) (l none))
theorem q86 (x : (a86).den) : runFn Try.prog E0 G86 Try.f86 l86 a86 r86 x = Q86 .leaf .any x := by kernel_rfl
def M86 (x : (a86).den) : Option (r86).den := Q86 (fun r => r) (fun _ _ => none) x
theorem m86 (x : (a86).den) : (runFn Try.prog E0 G86 Try.f86 l86 a86 r86 x).sure = M86 x := by rw [q86]; unfold M86 Q86; simp only [Tree.sure, sus]
def p86 (x : (a86).den) : Bool := (M86 x).isSome
def v86 (x : (a86).den) : (r86).den := (M86 x).getD (r86).dflt
def k86 : Con := ⟨a86, r86, p86, v86⟩
theorem h86 : Holds Try.prog 86 k86 := holds_of_M' (E := E0) follows_ok g86 eqTy_sound keyTy_sound at86 bd86 (by kernel_rfl) m86 fun G' hlo hF hE => LsOK_kn (by rw [lo86]; exact .cons (loopV_ok hE hF hlo (LsOK_kn (by rw [lo86x0]; exact .nil)) (by kernel_rfl) (by kernel_rfl) sp86x0 (fun _ => rfl) (fun _ _ => rfl) (s86x0) big) (.nil))
noncomputable def c85 : Code := Try.f85.body.getD .skip
theorem at85 : Try.prog.funcs[85]? = some Try.f85 := by kernel_rfl
theorem bd85 : Try.f85.body = some c85 := by kernel_rfl
theorem cl85 : Callable Try.prog 85 := callable_of at85 (by kernel_rfl) (by kernel_rfl)
abbrev T92 : Ty := (.fn T91 T3)
abbrev T93 : Ty := (.cons T92 .nil)
abbrev T94 : Ty := (.cons T42 T93)
abbrev a85 : Ty := T94
abbrev r85 : Ty := T43
noncomputable def G85 : Ctx := Ctx.of []
theorem g85 : Sound Try.prog (G85) := sound_of (fun _ h => by cases h)
noncomputable def b85x0 : Code := loopBody ((loopsOf (c85))[0]?)
noncomputable def b85x0x0 : Code := loopBody ((loopsOf (b85x0))[0]?)
theorem lo85x0x0 : loopsOf (b85x0x0) = [] := by kernel_rfl
abbrev cs85x0x0 : List Pat := [.slot 0 (.pc T42), .slot 1 (.pc T92), .slot 5 (.pc tI), .slot 6 (.pc T42)]
abbrev vs85x0x0 : List Pat := [.slot 7 (.pc tI)]
abbrev ps85x0x0 : List Pat := cs85x0x0 ++ vs85x0x0
def j85x0x0 : ZJ cs85x0x0 vs85x0x0 ps85x0x0 := ZA _ _
def sp85x0x0 : ZS cs85x0x0 vs85x0x0 ps85x0x0 := ZP _ _
abbrev wy85x0x0 : Ways := ⟨[(2, [.slot 0 (.pc T42), .slot 5 (.pc tI)])], [], []⟩
abbrev wv85x0x0 : Ways := ⟨[(2, [])], [], []⟩
def je85x0x0 : ZE cs85x0x0 wv85x0x0 wy85x0x0 := fun id => match id with | 2 => fun c y => (c.1, (c.2.2.1, y)) | _ => ZDf
def Z85x0x0 {α : Type} (l : RQ vs85x0x0 wv85x0x0 → α) (an : α → α → α) (c : ZD cs85x0x0) (v : ZD vs85x0x0) : α := bif (decide (v.1 < ((c.2.2.2.1.n : Nat) : Int))) then bif (decide (((0 : Int) ≤ v.1) ∧ (v.1 < ((c.2.2.2.1.n : Nat) : Int)))) then bif (decide (((0 : Int) ≤ (W (v.1 - (1 : Int)))) ∧ ((W (v.1 - (1 : Int))) < ((c.2.2.2.1.n : Nat) : Int)))) then bif (c.2.1 ((c.2.2.2.1.g (Int.toNat v.1)).1, (c.2.2.2.1.g (Int.toNat (W (v.1 - (1 : Int))))))).1 then bif (!(c.2.1 ((c.2.2.2.1.g (Int.toNat v.1)).1, (c.2.2.2.1.g (Int.toNat (W (v.1 - (1 : Int))))))).2.1) then bif (decide (((0 : Int) ≤ v.1) ∧ (v.1 < ((c.2.2.2.1.n : Nat) : Int)))) then bif (decide (((0 : Int) ≤ c.2.2.1) ∧ (c.2.2.1 < ((c.1.n : Nat) : Int)))) then l .bad else l .bad else l .bad else l (.next ((W (v.1 + (1 : Int))), ())) else l .bad else l .bad else l .bad else l (.out (.exit 2 ()))
theorem z85x0x0 (c : ZD cs85x0x0) (v : ZD vs85x0x0) : roundQ Try.prog E0 G85 0 66 [] ps85x0x0 wy85x0x0 b85x0x0 [] (j85x0x0 c v) = Z85x0x0 (fun r => .leaf (r.lift j85x0x0 je85x0x0 ZI ZI c)) .any c v := by kernel_rfl
def S85x0x0 (c : ZD cs85x0x0) (v : ZD vs85x0x0) : RQ vs85x0x0 wv85x0x0 := Z85x0x0 (fun r => r) (fun _ _ => .bad) c v
theorem s85x0x0 (c : ZD cs85x0x0) (v : ZD vs85x0x0) : detQ (roundQ Try.prog E0 G85 0 66 [] ps85x0x0 wy85x0x0 b85x0x0 [] (j85x0x0 c v)) = (S85x0x0 c v).lift j85x0x0 je85x0x0 ZI ZI c := by rw [z85x0x0]; unfold S85x0x0 Z85x0x0; simp only [detQ, lift_bad, dqs]
def L85x0x0 (c : ZD cs85x0x0) (v : ZD vs85x0x0) : LQ wv85x0x0 := iterQ (S85x0x0 c) big v
theorem lo85x0 : loopsOf (b85x0) = [.loop b85x0x0] := by kernel_rfl
abbrev cs85x0 : List Pat := [.slot 0 (.pc T42), .slot 1 (.pc T92)]
abbrev vs85x0 : List Pat := [.slot 5 (.pc tI)]
abbrev ps85x0 : List Pat := cs85x0 ++ vs85x0
def j85x0 : ZJ cs85x0 vs85x0 ps85x0 := ZA _ _
def sp85x0 : ZS cs85x0 vs85x0 ps85x0 := ZP _ _
abbrev wy85x0 : Ways := ⟨[(0, [.slot 0 (.pc T42)])], [], []⟩
abbrev wv85x0 : Ways := ⟨[(0, [])], [], []⟩
def je85x0 : ZE cs85x0 wv85x0 wy85x0 := fun id => match id with | 0 => fun c y => (c.1, y) | _ => ZDf
def Z85x0 {α : Type} (l : RQ vs85x0 wv85x0 → α) (an : α → α → α) (c : ZD cs85x0) (v : ZD vs85x0) : α := bif (decide (v.1 < ((c.1.n : Nat) : Int))) then bif (decide (((0 : Int) ≤ v.1) ∧ (v.1 < ((c.1.n : Nat) : Int)))) then bif (decide (((0 : Int) ≤ (W (v.1 - (1 : Int)))) ∧ ((W (v.1 - (1 : Int))) < ((c.1.n : Nat) : Int)))) then bif (c.2.1 ((c.1.g (Int.toNat v.1)).1, (c.1.g (Int.toNat (W (v.1 - (1 : Int))))))).1 then bif (c.2.1 ((c.1.g (Int.toNat v.1)).1, (c.1.g (Int.toNat (W (v.1 - (1 : Int))))))).2.1 then bif (decide (((0 : Int) ≤ v.1) ∧ ((v.1 ≤ ((c.1.n : Nat) : Int)) ∧ (((c.1.n : Nat) : Int) ≤ ((c.1.n : Nat) : Int))))) then onExit (L85x0x0 (c.1, (c.2.1, (v.1, ((⟨(Int.toNat (((c.1.n : Nat) : Int) - v.1)), fun i => (c.1.g (i + (Int.toNat v.1)))⟩ : Sl _), ())))) ((1 : Int), ())) 2 (fun u0 => bif (decide (((0 : Int) ≤ v.1) ∧ ((v.1 ≤ ((c.1.n : Nat) : Int)) ∧ (((c.1.n : Nat) : Int) ≤ ((c.1.n : Nat) : Int))))) then l .bad else l .bad) (l .bad) else l .bad else l (.next ((W (v.1 + (1 : Int))), ())) else l .bad else l .bad else l .bad else l (.out (.exit 0 ()))
theorem z85x0 (c : ZD cs85x0) (v : ZD vs85x0) : roundQ Try.prog E0 G85 0 66 [] ps85x0 wy85x0 b85x0 [.known (loopZ 0 [] ps85x0x0 fun x => spreadV wy85x0x0 je85x0x0 ZI ZI [] false (sp85x0x0 x).1 (L85x0x0 (sp85x0x0 x).1 (sp85x0x0 x).2) wy85x0x0.exits)] (j85x0 c v) = Z85x0 (fun r => .leaf (r.lift j85x0 je85x0 ZI ZI c)) .any c v := by kernel_rfl
def S85x0 (c : ZD cs85x0) (v : ZD vs85x0) : RQ vs85x0 wv85x0 := Z85x0 (fun r => r) (fun _ _ => .bad) c v
theorem s85x0 (c : ZD cs85x0) (v : ZD vs85x0) : detQ (roundQ Try.prog E0 G85 0 66 [] ps85x0 wy85x0 b85x0 [.known (loopZ 0 [] ps85x0x0 fun x => spreadV wy85x0x0 je85x0x0 ZI ZI [] false (sp85x0x0 x).1 (L85x0x0 (sp85x0x0 x).1 (sp85x0x0 x).2) wy85x0x0.exits)] (j85x0 c v)) = (S85x0 c v).lift j85x0 je85x0 ZI ZI c := by rw [z85x0]; unfold S85x0 Z85x0; simp only [detQ, lift_bad, dqs]
def L85x0 (c : ZD cs85x0) (v : ZD vs85x0) : LQ wv85x0 := iterQ (S85x0 c) big v
theorem lo85 : loopsOf (c85) = [.loop b85x0] := by kernel_rfl
noncomputable def l85 : List Loop := [.known (loopZ 0 [] ps85x0 fun x => spreadV wy85x0 je85x0 ZI ZI [] false (sp85x0 x).1 (L85x0 (sp85x0 x).1 (sp85x0 x).2) wy85x0.exits)]
def Q85 {α : Type} (l : Option (r85).den → α) (an : α → α → α) (x : (a85).den) : α := bif (decide (((x.1.n : Nat) : Int) < (2 : Int))) then l (some (x.1, ())) else onExit (L85x0 x ((1 : Int), ())) 0 (fun u1 => l (some (x.1, ()))) (l none)
theorem q85 (x : (a85).den) : runFn Try.prog E0 G85 Try.f85 l85 a85 r85 x = Q85 .leaf .any x := by kernel_rfl
def M85 (x : (a85).den) : Option (r85).den := Q85 (fun r => r) (fun _ _ => none) x
theorem m85 (x : (a85).den) : (runFn Try.prog E0 G85 Try.f85 l85 a85 r85 x).sure = M85 x := by rw [q85]; unfold M85 Q85; simp only [Tree.sure, sus]
def p85 (x : (a85).den) : Bool := (M85 x).isSome
def v85 (x : (a85).den) : (r85).den := (M85 x).getD (r85).dflt
def k85 : Con := ⟨a85, r85, p85, v85⟩
theorem h85 : Holds Try.prog 85 k85 := holds_of_M' (E := E0) follows_ok g85 eqTy_sound keyTy_sound at85 bd85 (by kernel_rfl) m85 fun G' hlo hF hE => LsOK_kn (by rw [lo85]; exact .cons (loopV_ok hE hF hlo (LsOK_kn (by rw [lo85x0]; exact .cons (loopV_ok hE hF hlo (LsOK_kn (by rw [lo85x0x0]; exact .nil)) (by kernel_rfl) (by kernel_rfl) sp85x0x0 (fun _ => rfl) (fun _ _ => rfl) (s85x0x0) big) (.nil))) (by kernel_rfl) (by kernel_rfl) sp85x0 (fun _ => rfl) (fun _ _ => rfl) (s85x0) big) (.nil))
noncomputable def c39 : Code := Try.f39.body.getD .skip
theorem at39 : Try.prog.funcs[39]? = some Try.f39 := by kernel_rfl
theorem bd39 : Try.f39.body = some c39 := by kernel_rfl
theorem cl39 : Callable Try.prog 39 := callable_of at39 (by kernel_rfl) (by kernel_rfl)
abbrev a39 : Ty := T88
abbrev r39 : Ty := T77
noncomputable def G39 : Ctx := Ctx.of [(63, .pure k63), (78, .pure k78), (81, .pure k81), (82, .pure k82), (83, .gen (sortD1 84 (.sl tL1) p84 v84)), (84, .gen (fun _ _ _ _ => .leaf .bad)), (85, .pure k85), (86, .pure k86)]
theorem g39 : Sound Try.prog (G39) := sound_of (List.forall_mem_cons.2 ⟨⟨cl63, h63⟩, List.forall_mem_cons.2 ⟨⟨cl78, h78⟩, List.forall_mem_cons.2 ⟨⟨cl81, h81⟩, List.forall_mem_cons.2 ⟨⟨cl82, h82⟩, List.forall_mem_cons.2 ⟨⟨cl83, sh83⟩, List.forall_mem_cons.2 ⟨⟨cl84, gbad84⟩, List.forall_mem_cons.2 ⟨⟨cl85, h85⟩, List.forall_mem_cons.2 ⟨⟨cl86, h86⟩, fun _ h => by cases h⟩⟩⟩⟩⟩⟩⟩⟩)
noncomputable def b39x0 : Code := rangeBody ((loopsOf (c39))[0]?)
noncomputable def as39x0 : Code := rangeAs ((loopsOf (c39))[0]?)
abbrev mp39x0 : List Pat := [.slot 4 (.ptr 4), .slot 5 (.ptr 5), .slot 9 (.ptr 111), .box 4 [.pc tI], .box 5 [.pc tI], .box 111 [.own 1112000 79 T30]]
theorem lo39x0 : loopsOf (b39x0) = [] := by kernel_rfl
def Z39x0 {α : Type} (l : RO mp39x0 → α) (an : α → α → α) (x : ZD mp39x0) (it : Ty.den T50) : α := cl (r82).dflt (M82 (it.1, (x.2.2.2.1.1, x.2.2.2.2.1))) (fun u0 => bif (decide (((x.2.2.2.2.2.1.1.n + 1) * 24) ≤ 140737488355328)) then l (.next ((), ((), ((), (x.2.2.2.1, (x.2.2.2.2.1, (((catSl x.2.2.2.2.2.1.1 (⟨1, fun i => List.getD [u0] i u0⟩ : Sl (Ty.den T30))), ()), ()))))))) else l .bad) (l .bad)
theorem z39x0 (x : ZD mp39x0) (it : Ty.den T50) : stepR Try.prog (E0.rw [] [83]) G39 0 500000 34 [22] as39x0 b39x0 [] [] T50 mp39x0 x it = Z39x0 .leaf .any x it := by kernel_rfl
def S39x0 (x : ZD mp39x0) (it : Ty.den T50) : RO mp39x0 := Z39x0 (fun r => r) (fun _ _ => .bad) x it
theorem s39x0 (x : ZD mp39x0) (it : Ty.den T50) : (stepR Try.prog (E0.rw [] [83]) G39 0 500000 34 [22] as39x0 b39x0 [] [] T50 mp39x0 x it).detB .bad = S39x0 x it := by rw [z39x0]; unfold S39x0 Z39x0; simp only [detB_cond, Tree.detB, detB_cl, detB_onExit, detB_onPanL]
def L39x0 (x : ZD mp39x0) (l : List (Ty.den T50)) : RO mp39x0 := runAllD S39x0 x l
theorem lo39 : loopsOf (c39) = [.rangeFunc (.tmp 21) #[22] as39x0 b39x0] := by kernel_rfl
noncomputable def l39 : List Loop := [.known (fun s0 => Tree.map (thawO 9) ((rangeD 0 [] 21 T50 mp39x0 [] [] (fun x l => L39x0 x l)) s0))]
def Q39 {α : Type} (l : Option (r39).den → α) (an : α → α → α) (x : (a39).den) : α := cl (r78).dflt (M78 (x.1, x.2)) (fun u1 => cl (r63).dflt (M63 (x.1, u1)) (fun u2 => bif (!(decide (u2.1 = (0 : Int)))) then l (some ((⟨0, fun i => ((⟨0, fun i => ((0 : Int), ())⟩ : Sl _), ())⟩ : Sl _), u2)) else cl (r81).dflt (M81 (x.1, ())) (fun u3 => onNext (L39x0 ((), ((), ((), ((x.2.1, ()), (x.2.2, (((⟨0, fun i => ((⟨0, fun i => ((0 : Int), ())⟩ : Sl _), ())⟩ : Sl _), ()), ())))))) (Sl.list u3.1)) (fun u4 => bif (sortB1 p84 v84 u4.2.2.2.2.2.1.1) then cl (r85).dflt (M85 ((sortS1 v84 u4.2.2.2.2.2.1.1), ((fun y1 => ((p86 y1), (v86 y1))), ()))) (fun u5 => l (some (u5.1, ((0 : Int), ())))) (l none) else l none) (onRetO (L39x0 ((), ((), ((), ((x.2.1, ()), (x.2.2, (((⟨0, fun i => ((⟨0, fun i => ((0 : Int), ())⟩ : Sl _), ())⟩ : Sl _), ()), ())))))) (Sl.list u3.1)) (fun u6 => l none) (l none))) (l none)) (l none)) (l none)
theorem q39 (x : (a39).den) : runFn Try.prog (E0.rw [] [83]) G39 Try.f39 l39 a39 r39 x = Q39 .leaf .any x := by kernel_rfl
def M39 (x : (a39).den) : Option (r39).den := Q39 (fun r => r) (fun _ _ => none) x
theorem m39 (x : (a39).den) : (runFn Try.prog (E0.rw [] [83]) G39 Try.f39 l39 a39 r39 x).sure = M39 x := by rw [q39]; unfold M39 Q39; simp only [Tree.sure, sus]
def p39 (x : (a39).den) : Bool := (M39 x).isSome
def v39 (x : (a39).den) : (r39).den := (M39 x).getD (r39).dflt
def k39 : Con := ⟨a39, r39, p39, v39⟩
theorem h39 : Holds Try.prog 39 k39 := holds_of_MT (E := (E0.rw [] [83])) follows_ok g39 eqTy_sound keyTy_sound at39 bd39 (by kernel_rfl) m39 fun G' hlo hF hE hT => LsOK_kn (by rw [lo39]; exact .cons (loop_thaw hT (rangeD_ok hE hF hlo at39 (by kernel_rfl) (by kernel_rfl) (by kernel_rfl) (by kernel_rfl) (by kernel_rfl) (fun G' hlo hF l hE => LsOK_nil) (fun G' hlo hF l hE => LsOK_kn (by rw [lo39x0]; exact .nil)) s39x0) 9) (.nil))
noncomputable def c44 : Code := Try.f44.body.getD .skip
theorem at44 : Try.prog.funcs[44]? = some Try.f44 := by kernel_rfl
theorem bd44 : Try.f44.body = some c44 := by kernel_rfl
theorem cl44 : Callable Try.prog 44 := callable_of at44 (by kernel_rfl) (by kernel_rfl)
abbrev T95 : Ty := (.cons T12 T20)
abbrev T96 : Ty := (.cons T12 T95)
abbrev a44 : Ty := T96
abbrev r44 : Ty := T8
noncomputable def G44 : Ctx := Ctx.of []
theorem g44 : Sound Try.prog (G44) := sound_of (fun _ h => by cases h)
theorem lo44 : loopsOf (c44) = [] := by kernel_rfl
noncomputable def l44 : List Loop := []
def Q44 {α : Type} (l : Option (r44).den → α) (an : α → α → α) (x : (a44).den) : α := l (some ((x.1.1, (x.1.2.1, (x.2.1.1, (x.2.1.2.1, x.2.2.1)))), ()))
theorem q44 (x : (a44).den) : runFn Try.prog E0 G44 Try.f44 l44 a44 r44 x = Q44 .leaf .any x := by kernel_rfl
def M44 (x : (a44).den) : Option (r44).den := Q44 (fun r => r) (fun _ _ => none) x
theorem m44 (x : (a44).den) : (runFn Try.prog E0 G44 Try.f44 l44 a44 r44 x).sure = M44 x := by rw [q44]; unfold M44 Q44; simp only [Tree.sure, sus]
def p44 (x : (a44).den) : Bool := (M44 x).isSome
def v44 (x : (a44).den) : (r44).den := (M44 x).getD (r44).dflt
def k44 : Con := ⟨a44, r44, p44, v44⟩
theorem h44 : Holds Try.prog 44 k44 := holds_of_M' (E := E0) follows_ok g44 eqTy_sound keyTy_sound at44 bd44 (by kernel_rfl) m44 fun G' hlo hF hE => LsOK_kn (by rw [lo44]; exact .nil)
noncomputable def c48 : Code := Try.f48.body.getD .skip
theorem at48 : Try.prog.funcs[48]? = some Try.f48 := by kernel_rfl
theorem bd48 : Try.f48.body = some c48 := by kernel_rfl
theorem cl48 : Callable Try.prog 48 := callable_of at48 (by kernel_rfl) (by kernel_rfl)
abbrev a48 : Ty := T1
abbrev r48 : Ty := T20
noncomputable def G48 : Ctx := Ctx.of []
theorem g48 : Sound Try.prog (G48) := sound_of (fun _ h => by cases h)
theorem lo48 : loopsOf (c48) = [] := by kernel_rfl
noncomputable def l48 : List Loop := []
def Q48 {α : Type} (l : Option (r48).den → α) (an : α → α → α) (x : (a48).den) : α := l (some (x, ()))
theorem q48 (x : (a48).den) : runFn Try.prog E0 G48 Try.f48 l48 a48 r48 x = Q48 .leaf .any x := by kernel_rfl
def M48 (x : (a48).den) : Option (r48).den := Q48 (fun r => r) (fun _ _ => none) x
theorem m48 (x : (a48).den) : (runFn Try.prog E0 G48 Try.f48 l48 a48 r48 x).sure = M48 x := by rw [q48]; unfold M48 Q48; simp only [Tree.sure, sus]
def p48 (x : (a48).den) : Bool := (M48 x).isSome
def v48 (x : (a48).den) : (r48).den := (M48 x).getD (r48).dflt
def k48 : Con := ⟨a48, r48, p48, v48⟩
theorem h48 : Holds Try.prog 48 k48 := holds_of_M' (E := E0) follows_ok g48 eqTy_sound keyTy_sound at48 bd48 (by kernel_rfl) m48 fun G' hlo hF hE => LsOK_kn (by rw [lo48]; exact .nil)
noncomputable def c62 : Code := Try.f62.body.getD .skip
theorem at62 : Try.prog.funcs[62]? = some Try.f62 := by kernel_rfl
theorem bd62 : Try.f62.body = some c62 := by kernel_rfl
theorem cl62 : Callable Try.prog 62 := callable_of at62 (by kernel_rfl) (by kernel_rfl)
abbrev a62 : Ty := .nil
abbrev r62 : Ty := T19
noncomputable def G62 : Ctx := Ctx.of [(44, .pure k44), (48, .pure k48)]
theorem g62 : Sound Try.prog (G62) := sound_of (List.forall_mem_cons.2 ⟨⟨cl44, h44⟩, List.forall_mem_cons.2 ⟨⟨cl48, h48⟩, fun _ h => by cases h⟩⟩)
theorem lo62 : loopsOf (c62) = [] := by kernel_rfl
noncomputable def l62 : List Loop := []
def Q62 {α : Type} (l : Option (r62).den → α) (an : α → α → α) (x : (a62).den) : α := cl (r48).dflt (M48 ((8 : Int), ((9 : Int), ()))) (fun u0 => cl (r48).dflt (M48 ((50 : Int), ((50 : Int), ()))) (fun u1 => cl (r48).dflt (M48 ((74000 : Int), ((74200 : Int), ()))) (fun u2 => cl (r44).dflt (M44 (u0.1, (u1.1, (u2.1, ())))) (fun u3 => cl (r48).dflt (M48 ((30 : Int), ((30 : Int), ()))) (fun u4 => cl (r48).dflt (M48 ((52 : Int), ((54 : Int), ()))) (fun u5 => cl (r48).dflt (M48 ((75000 : Int), ((75100 : Int), ()))) (fun u6 => cl (r44).dflt (M44 (u4.1, (u5.1, (u6.1, ())))) (fun u7 => cl (r48).dflt (M48 ((20 : Int), ((22 : Int), ()))) (fun u8 => cl (r48).dflt (M48 ((50 : Int), ((52 : Int), ()))) (fun u9 => cl (r48).dflt (M48 ((74100 : Int), ((74300 : Int), ()))) (fun u10 => cl (r44).dflt (M44 (u8.1, (u9.1, (u10.1, ())))) (fun u11 => cl (r48).dflt (M48 ((38 : Int), ((40 : Int), ()))) (fun u12 => cl (r48).dflt (M48 ((54 : Int), ((56 : Int), ()))) (fun u13 => cl (r48).dflt (M48 ((74900 : Int), ((75000 : Int), ()))) (fun u14 => cl (r44).dflt (M44 (u12.1, (u13.1, (u14.1, ())))) (fun u15 => cl (r48).dflt (M48 ((31 : Int), ((33 : Int), ()))) (fun u16 => cl (r48).dflt (M48 ((52 : Int), ((53 : Int), ()))) (fun u17 => cl (r48).dflt (M48 ((74200 : Int), ((74900 : Int), ()))) (fun u18 => cl (r44).dflt (M44 (u16.1, (u17.1, (u18.1, ())))) (fun u19 => l (some (((⟨3, fun i => List.getD [((0 : Int), ((⟨2, fun i => List.getD [u3.1, u7.1] i u3.1⟩ : Sl _), ())), ((6 : Int), ((⟨2, fun i => List.getD [u11.1, u15.1] i u11.1⟩ : Sl _), ())), ((12 : Int), ((⟨1, fun i => List.getD [u19.1] i u19.1⟩ : Sl _), ()))] i ((0 : Int), ((⟨2, fun i => List.getD [u3.1, u7.1] i u3.1⟩ : Sl _), ()))⟩ : Sl _), ((2 : Int), ((50 : Int), ((0 : Int), ((1 : Int), ()))))), ()))) (l none)) (l none)) (l none)) (l none)) (l none)) (l none)) (l none)) (l none)) (l none)) (l none)) (l none)) (l none)) (l none)) (l none)) (l none)) (l none)) (l none)) (l none)) (l none)) (l none)
theorem q62 (x : (a62).den) : runFn Try.prog E0 G62 Try.f62 l62 a62 r62 x = Q62 .leaf .any x := by kernel_rfl
def M62 (x : (a62).den) : Option (r62).den := Q62 (fun r => r) (fun _ _ => none) x
theorem m62 (x : (a62).den) : (runFn Try.prog E0 G62 Try.f62 l62 a62 r62 x).sure = M62 x := by rw [q62]; unfold M62 Q62; simp only [Tree.sure, sus]
def p62 (x : (a62).den) : Bool := (M62 x).isSome
def v62 (x : (a62).den) : (r62).den := (M62 x).getD (r62).dflt
def k62 : Con := ⟨a62, r62, p62, v62⟩
theorem h62 : Holds Try.prog 62 k62 := holds_of_M' (E := E0) follows_ok g62 eqTy_sound keyTy_sound at62 bd62 (by kernel_rfl) m62 fun G' hlo hF hE => LsOK_kn (by rw [lo62]; exact .nil)
noncomputable def c16 : Code := Try.f16.body.getD .skip
theorem at16 : Try.prog.funcs[16]? = some Try.f16 := by kernel_rfl
theorem bd16 : Try.f16.body = some c16 := by kernel_rfl
theorem cl16 : Callable Try.prog 16 := callable_of at16 (by kernel_rfl) (by kernel_rfl)
abbrev a16 : Ty := T19
abbrev r16 : Ty := T3
noncomputable def G16 : Ctx := Ctx.of []
theorem g16 : Sound Try.prog (G16) := sound_of (fun _ h => by cases h)
noncomputable def b16x0 : Code := loopBody ((loopsOf (c16))[0]?)
theorem lo16x0 : loopsOf (b16x0) = [] := by kernel_rfl
abbrev cs16x0 : List Pat := [.slot 1 (.ptr 1), .box 1 [.pc T16, .pc tI, .pc tI, .pc tI, .pc tI]]
abbrev vs16x0 : List Pat := [.slot 3 (.pc tI)]
abbrev ps16x0 : List Pat := cs16x0 ++ vs16x0
def j16x0 : ZJ cs16x0 vs16x0 ps16x0 := ZA _ _
def sp16x0 : ZS cs16x0 vs16x0 ps16x0 := ZP _ _
abbrev wy16x0 : Ways := ⟨[(0, [.slot 1 (.ptr 1), .box 1 [.pc T16, .pc tI, .pc tI, .pc tI, .pc tI]])], [.slot 2 (.pc .bool)], []⟩
abbrev wv16x0 : Ways := ⟨[(0, [])], [.slot 2 (.pc .bool)], []⟩
def je16x0 : ZE cs16x0 wv16x0 wy16x0 := fun id => match id with | 0 => fun c y => (c.1, (c.2.1, y)) | _ => ZDf
def Z16x0 {α : Type} (l : RQ vs16x0 wv16x0 → α) (an : α → α → α) (c : ZD cs16x0) (v : ZD vs16x0) : α := bif (decide (v.1 < ((c.2.1.1.n : Nat) : Int))) then bif (decide (v.1 < (7 : Int))) then bif (decide (((0 : Int) ≤ v.1) ∧ (v.1 < ((c.2.1.1.n : Nat) : Int)))) then bif (decide ((5 : Int) < (((c.2.1.1.g (Int.toNat v.1)).2.1.n : Nat) : Int))) then l (.out (.ret (false, ()))) else l (.next ((W (v.1 + (1 : Int))), ())) else l .bad else l (.out (.exit 0 ())) else l (.out (.exit 0 ()))
theorem z16x0 (c : ZD cs16x0) (v : ZD vs16x0) : roundQ Try.prog E0 G16 0 27 [] ps16x0 wy16x0 b16x0 [] (j16x0 c v) = Z16x0 (fun r => .leaf (r.lift j16x0 je16x0 ZI ZI c)) .any c v := by kernel_rfl
def S16x0 (c : ZD cs16x0) (v : ZD vs16x0) : RQ vs16x0 wv16x0 := Z16x0 (fun r => r) (fun _ _ => .bad) c v
theorem s16x0 (c : ZD cs16x0) (v : ZD vs16x0) : detQ (roundQ Try.prog E0 G16 0 27 [] ps16x0 wy16x0 b16x0 [] (j16x0 c v)) = (S16x0 c v).lift j16x0 je16x0 ZI ZI c := by rw [z16x0]; unfold S16x0 Z16x0; simp only [detQ, lift_bad, dqs]
def L16x0 (c : ZD cs16x0) (v : ZD vs16x0) : LQ wv16x0 := iterQ (S16x0 c) big v
theorem lo16 : loopsOf (c16) = [.loop b16x0] := by kernel_rfl
noncomputable def l16 : List Loop := [.known (loopZ 0 [] ps16x0 fun x => spreadV wy16x0 je16x0 ZI ZI [] true (sp16x0 x).1 (L16x0 (sp16x0 x).1 (sp16x0 x).2) wy16x0.exits)]
def Q16 {α : Type} (l : Option (r16).den → α) (an : α → α → α) (x : (a16).den) : α := onExit (L16x0 ((), (x.1, ())) ((0 : Int), ())) 0 (fun u0 => l (some ((decide (((x.1.1.n : Nat) : Int) ≤ (6 : Int))), ()))) (onRet (L16x0 ((), (x.1, ())) ((0 : Int), ())) (fun u1 => l (some u1)) (l none))
theorem q16 (x : (a16).den) : runFn Try.prog E0 G16 Try.f16 l16 a16 r16 x = Q16 .leaf .any x := by kernel_rfl
def M16 (x : (a16).den) : Option (r16).den := Q16 (fun r => r) (fun _ _ => none) x
theorem m16 (x : (a16).den) : (runFn Try.prog E0 G16 Try.f16 l16 a16 r16 x).sure = M16 x := by rw [q16]; unfold M16 Q16; simp only [Tree.sure, sus]
def p16 (x : (a16).den) : Bool := (M16 x).isSome
def v16 (x : (a16).den) : (r16).den := (M16 x).getD (r16).dflt
def k16 : Con := ⟨a16, r16, p16, v16⟩
theorem h16 : Holds Try.prog 16 k16 := holds_of_M' (E := E0) follows_ok g16 eqTy_sound keyTy_sound at16 bd16 (by kernel_rfl) m16 fun G' hlo hF hE => LsOK_kn (by rw [lo16]; exact .cons (loopV_ok hE hF hlo (LsOK_kn (by rw [lo16x0]; exact .nil)) (by kernel_rfl) (by kernel_rfl) sp16x0 (fun _ => rfl) (fun _ _ => rfl) (s16x0) big) (.nil))
noncomputable def c68 : Code := Try.f68.body.getD .skip
theorem at68 : Try.prog.funcs[68]? = some Try.f68 := by kernel_rfl
theorem bd68 : Try.f68.body = some c68 := by kernel_rfl
theorem cl68 : Callable Try.prog 68 := callable_of at68 (by kernel_rfl) (by kernel_rfl)
abbrev a68 : Ty := T2
abbrev r68 : Ty := T3
noncomputable def G68 : Ctx := Ctx.of []
theorem g68 : Sound Try.prog (G68) := sound_of (fun _ h => by cases h)
theorem lo68 : loopsOf (c68) = [] := by kernel_rfl
noncomputable def l68 : List Loop := []
def Q68 {α : Type} (l : Option (r68).den → α) (an : α → α → α) (x : (a68).den) : α := bif (decide (x.2.1 ≤ x.1)) then l (some ((decide (x.1 ≤ x.2.2.1)), ())) else l (some (false, ()))
theorem q68 (x : (a68).den) : runFn Try.prog E0 G68 Try.f68 l68 a68 r68 x = Q68 .leaf .any x := by kernel_rfl
def M68 (x : (a68).den) : Option (r68).den := Q68 (fun r => r) (fun _ _ => none) x
theorem m68 (x : (a68).den) : (runFn Try.prog E0 G68 Try.f68 l68 a68 r68 x).sure = M68 x := by rw [q68]; unfold M68 Q68; simp only [Tree.sure, sus]
def p68 (x : (a68).den) : Bool := (M68 x).isSome
def v68 (x : (a68).den) : (r68).den := (M68 x).getD (r68).dflt
def k68 : Con := ⟨a68, r68, p68, v68⟩
theorem h68 : Holds Try.prog 68 k68 := holds_of_M' (E := E0) follows_ok g68 eqTy_sound keyTy_sound at68 bd68 (by kernel_rfl) m68 fun G' hlo hF hE => LsOK_kn (by rw [lo68]; exact .nil)
noncomputable def c69 : Code := Try.f69.body.getD .skip
theorem at69 : Try.prog.funcs[69]? = some Try.f69 := by kernel_rfl
theorem bd69 : Try.f69.body = some c69 := by kernel_rfl
theorem cl69 : Callable Try.prog 69 := callable_of at69 (by kernel_rfl) (by kernel_rfl)
abbrev a69 : Ty := T13
abbrev r69 : Ty := T3
noncomputable def G69 : Ctx := Ctx.of []
theorem g69 : Sound Try.prog (G69) := sound_of (fun _ h => by cases h)
theorem lo69 : loopsOf (c69) = [] := by kernel_rfl
noncomputable def l69 : List Loop := []
def Q69 {α : Type} (l : Option (r69).den → α) (an : α → α → α) (x : (a69).den) : α := bif (decide ((0 : Int) ≤ x.1.1)) then bif (decide (x.1.1 ≤ x.1.2.1)) then l (some ((decide (x.1.2.1 ≤ x.2.1)), ())) else l (some (false, ())) else l (some (false, ()))
theorem q69 (x : (a69).den) : runFn Try.prog E0 G69 Try.f69 l69 a69 r69 x = Q69 .leaf .any x := by kernel_rfl
def M69 (x : (a69).den) : Option (r69).den := Q69 (fun r => r) (fun _ _ => none) x
theorem m69 (x : (a69).den) : (runFn Try.prog E0 G69 Try.f69 l69 a69 r69 x).sure = M69 x := by rw [q69]; unfold M69 Q69; simp only [Tree.sure, sus]
def p69 (x : (a69).den) : Bool := (M69 x).isSome
def v69 (x : (a69).den) : (r69).den := (M69 x).getD (r69).dflt
def k69 : Con := ⟨a69, r69, p69, v69⟩
theorem h69 : Holds Try.prog 69 k69 := holds_of_M' (E := E0) follows_ok g69 eqTy_sound keyTy_sound at69 bd69 (by kernel_rfl) m69 fun G' hlo hF hE => LsOK_kn (by rw [lo69]; exact .nil)
noncomputable def c21 : Code := Try.f21.body.getD .skip
theorem at21 : Try.prog.funcs[21]? = some Try.f21 := by kernel_rfl
theorem bd21 : Try.f21.body = some c21 := by kernel_rfl
theorem cl21 : Callable Try.prog 21 := callable_of at21 (by kernel_rfl) (by kernel_rfl)
abbrev a21 : Ty := T19
abbrev r21 : Ty := T3
noncomputable def G21 : Ctx := Ctx.of [(68, .pure k68), (69, .pure k69)]
theorem g21 : Sound Try.prog (G21) := sound_of (List.forall_mem_cons.2 ⟨⟨cl68, h68⟩, List.forall_mem_cons.2 ⟨⟨cl69, h69⟩, fun _ h => by cases h⟩⟩)
noncomputable def b21x0 : Code := loopBody ((loopsOf (c21))[0]?)
noncomputable def b21x0x0 : Code := loopBody ((loopsOf (b21x0))[0]?)
theorem lo21x0x0 : loopsOf (b21x0x0) = [] := by kernel_rfl
abbrev cs21x0x0 : List Pat := [.slot 1 (.ptr 1), .slot 3 (.pc tI), .slot 4 (.ptr 103), .box 1 [.pc T16, .pc tI, .pc tI, .pc tI, .pc tI], .box 103 [.pc tI, .pc (.sl T6)]]
abbrev vs21x0x0 : List Pat := [.slot 5 (.pc tI)]
abbrev ps21x0x0 : List Pat := cs21x0x0 ++ vs21x0x0
def j21x0x0 : ZJ cs21x0x0 vs21x0x0 ps21x0x0 := ZA _ _
def sp21x0x0 : ZS cs21x0x0 vs21x0x0 ps21x0x0 := ZP _ _
abbrev wy21x0x0 : Ways := ⟨[(2, [.slot 1 (.ptr 1), .slot 3 (.pc tI), .box 1 [.pc T16, .pc tI, .pc tI, .pc tI, .pc tI]])], [.slot 2 (.pc .bool)], []⟩
abbrev wv21x0x0 : Ways := ⟨[(2, [])], [.slot 2 (.pc .bool)], []⟩
def je21x0x0 : ZE cs21x0x0 wv21x0x0 wy21x0x0 := fun id => match id with | 2 => fun c y => (c.1, (c.2.1, (c.2.2.2.1, y))) | _ => ZDf
def Z21x0x0 {α : Type} (l : RQ vs21x0x0 wv21x0x0 → α) (an : α → α → α) (c : ZD cs21x0x0) (v : ZD vs21x0x0) : α := bif (decide (v.1 < ((c.2.2.2.2.1.2.1.n : Nat) : Int))) then bif (decide (((0 : Int) ≤ v.1) ∧ (v.1 < ((c.2.2.2.2.1.2.1.n : Nat) : Int)))) then cl (r69).dflt (M69 (((c.2.2.2.2.1.2.1.g (Int.toNat v.1)).1, ((c.2.2.2.2.1.2.1.g (Int.toNat v.1)).2.1, ())), ((100 : Int), ()))) (fun u0 => bif (!u0.1) then l (.out (.ret (false, ()))) else cl (r69).dflt (M69 (((c.2.2.2.2.1.2.1.g (Int.toNat v.1)).2.2.1, ((c.2.2.2.2.1.2.1.g (Int.toNat v.1)).2.2.2.1, ())), ((100 : Int), ()))) (fun u1 => bif (!u1.1) then l (.out (.ret (false, ()))) else cl (r69).dflt (M69 ((c.2.2.2.2.1.2.1.g (Int.toNat v.1)).2.2.2.2, ((99999 : Int), ()))) (fun u2 => bif (!u2.1) then l (.out (.ret (false, ()))) else l (.next ((W (v.1 + (1 : Int))), ()))) (l .bad)) (l .bad)) (l .bad) else l .bad else l (.out (.exit 2 ()))
theorem z21x0x0 (c : ZD cs21x0x0) (v : ZD vs21x0x0) : roundQ Try.prog E0 G21 0 97 [] ps21x0x0 wy21x0x0 b21x0x0 [] (j21x0x0 c v) = Z21x0x0 (fun r => .leaf (r.lift j21x0x0 je21x0x0 ZI ZI c)) .any c v := by kernel_rfl
def S21x0x0 (c : ZD cs21x0x0) (v : ZD vs21x0x0) : RQ vs21x0x0 wv21x0x0 := Z21x0x0 (fun r => r) (fun _ _ => .bad) c v
theorem s21x0x0 (c : ZD cs21x0x0) (v : ZD vs21x0x0) : detQ (roundQ Try.prog E0 G21 0 97 [] ps21x0x0 wy21x0x0 b21x0x0 [] (j21x0x0 c v)) = (S21x0x0 c v).lift j21x0x0 je21x0x0 ZI ZI c := by rw [z21x0x0]; unfold S21x0x0 Z21x0x0; simp only [detQ, lift_bad, dqs]
def L21x0x0 (c : ZD cs21x0x0) (v : ZD vs21x0x0) : LQ wv21x0x0 := iterQ (S21x0x0 c) big v
theorem lo21x0 : loopsOf (b21x0) = [.loop b21x0x0] := by kernel_rfl
abbrev cs21x0 : List Pat := [.slot 1 (.ptr 1), .box 1 [.pc T16, .pc tI, .pc tI, .pc tI, .pc tI]]
abbrev vs21x0 : List Pat := [.slot 3 (.pc tI)]
abbrev ps21x0 : List Pat := cs21x0 ++ vs21x0
def j21x0 : ZJ cs21x0 vs21x0 ps21x0 := ZA _ _
def sp21x0 : ZS cs21x0 vs21x0 ps21x0 := ZP _ _
abbrev wy21x0 : Ways := ⟨[(0, [.slot 1 (.ptr 1), .box 1 [.pc T16, .pc tI, .pc tI, .pc tI, .pc tI]])], [.slot 2 (.pc .bool)], []⟩
abbrev wv21x0 : Ways := ⟨[(0, [])], [.slot 2 (.pc .bool)], []⟩
def je21x0 : ZE cs21x0 wv21x0 wy21x0 := fun id => match id with | 0 => fun c y => (c.1, (c.2.1, y)) | _ => ZDf
def Z21x0 {α : Type} (l : RQ vs21x0 wv21x0 → α) (an : α → α → α) (c : ZD cs21x0) (v : ZD vs21x0) : α := bif (decide (v.1 < ((c.2.1.1.n : Nat) : Int))) then bif (decide (((0 : Int) ≤ v.1) ∧ (v.1 < ((c.2.1.1.n : Nat) : Int)))) then cl (r68).dflt (M68 ((c.2.1.1.g (Int.toNat v.1)).1, ((0 : Int), ((200 : Int), ())))) (fun u3 => bif (!u3.1) then l (.out (.ret (false, ()))) else bif (decide ((0 : Int) < v.1)) then bif (decide (((0 : Int) ≤ (W (v.1 - (1 : Int)))) ∧ ((W (v.1 - (1 : Int))) < ((c.2.1.1.n : Nat) : Int)))) then bif (decide ((c.2.1.1.g (Int.toNat v.1)).1 ≤ (c.2.1.1.g (Int.toNat (W (v.1 - (1 : Int))))).1)) then l (.out (.ret (false, ()))) else bif (decide ((3 : Int) < (((c.2.1.1.g (Int.toNat v.1)).2.1.n : Nat) : Int))) then l (.out (.ret (false, ()))) else onExit (L21x0x0 ((), (v.1, ((), (c.2.1, ((c.2.1.1.g (Int.toNat v.1)), ()))))) ((0 : Int), ())) 2 (fun u4 => l (.next ((W (v.1 + (1 : Int))), ()))) (onRet (L21x0x0 ((), (v.1, ((), (c.2.1, ((c.2.1.1.g (Int.toNat v.1)), ()))))) ((0 : Int), ())) (fun u5 => l (.out (.ret u5))) (l .bad)) else l .bad else bif (decide ((3 : Int) < (((c.2.1.1.g (Int.toNat v.1)).2.1.n : Nat) : Int))) then l (.out (.ret (false, ()))) else onExit (L21x0x0 ((), (v.1, ((), (c.2.1, ((c.2.1.1.g (Int.toNat v.1)), ()))))) ((0 : Int), ())) 2 (fun u6 => l (.next ((W (v.1 + (1 : Int))), ()))) (onRet (L21x0x0 ((), (v.1, ((), (c.2.1, ((c.2.1.1.g (Int.toNat v.1)), ()))))) ((0 : Int), ())) (fun u7 => l (.out (.ret u7))) (l .bad))) (l .bad) else l .bad else l (.out (.exit 0 ()))
theorem z21x0 (c : ZD cs21x0) (v : ZD vs21x0) : roundQ Try.prog E0 G21 0 97 [] ps21x0 wy21x0 b21x0 [.known (loopZ 0 [] ps21x0x0 fun x => spreadV wy21x0x0 je21x0x0 ZI ZI [] true (sp21x0x0 x).1 (L21x0x0 (sp21x0x0 x).1 (sp21x0x0 x).2) wy21x0x0.exits)] (j21x0 c v) = Z21x0 (fun r => .leaf (r.lift j21x0 je21x0 ZI ZI c)) .any c v := by kernel_rfl
def S21x0 (c : ZD cs21x0) (v : ZD vs21x0) : RQ vs21x0 wv21x0 := Z21x0 (fun r => r) (fun _ _ => .bad) c v
theorem s21x0 (c : ZD cs21x0) (v : ZD vs21x0) : detQ (roundQ Try.prog E0 G21 0 97 [] ps21x0 wy21x0 b21x0 [.known (loopZ 0 [] ps21x0x0 fun x => spreadV wy21x0x0 je21x0x0 ZI ZI [] true (sp21x0x0 x).1 (L21x0x0 (sp21x0x0 x).1 (sp21x0x0 x).2) wy21x0x0.exits)] (j21x0 c v)) = (S21x0 c v).lift j21x0 je21x0 ZI ZI c := by rw [z21x0]; unfold S21x0 Z21x0; simp only [detQ, lift_bad, dqs]
def L21x0 (c : ZD cs21x0) (v : ZD vs21x0) : LQ wv21x0 := iterQ (S21x0 c) big v
theorem lo21 : loopsOf (c21) = [.loop b21x0] := by kernel_rfl
noncomputable def l21 : List Loop := [.known (loopZ 0 [] ps21x0 fun x => spreadV wy21x0 je21x0 ZI ZI [] true (sp21x0 x).1 (L21x0 (sp21x0 x).1 (sp21x0 x).2) wy21x0.exits)]
def Q21 {α : Type} (l : Option (r21).den → α) (an : α → α → α) (x : (a21).den) : α := onExit (L21x0 ((), (x.1, ())) ((0 : Int), ())) 0 (fun u8 => cl (r68).dflt (M68 (((x.1.1.n : Nat) : Int), ((1 : Int), ((4 : Int), ())))) (fun u9 => bif u9.1 then cl (r68).dflt (M68 (x.1.2.1, ((0 : Int), ((50 : Int), ())))) (fun u10 => bif u10.1 then cl (r68).dflt (M68 (x.1.2.2.1, ((0 : Int), ((1000 : Int), ())))) (fun u11 => bif u11.1 then cl (r68).dflt (M68 (x.1.2.2.2.1, ((0 : Int), ((12 : Int), ())))) (fun u12 => bif u12.1 then cl (r68).dflt (M68 (x.1.2.2.2.2.1, ((0 : Int), ((12 : Int), ())))) (fun u13 => l (some u13)) (l none) else l (some (false, ()))) (l none) else l (some (false, ()))) (l none) else l (some (false, ()))) (l none) else l (some (false, ()))) (l none)) (onRet (L21x0 ((), (x.1, ())) ((0 : Int), ())) (fun u14 => l (some u14)) (l none))
theorem q21 (x : (a21).den) : runFn Try.prog E0 G21 Try.f21 l21 a21 r21 x = Q21 .leaf .any x := by kernel_rfl
def M21 (x : (a21).den) : Option (r21).den := Q21 (fun r => r) (fun _ _ => none) x
theorem m21 (x : (a21).den) : (runFn Try.prog E0 G21 Try.f21 l21 a21 r21 x).sure = M21 x := by rw [q21]; unfold M21 Q21; simp only [Tree.sure, sus]
def p21 (x : (a21).den) : Bool := (M21 x).isSome
def v21 (x : (a21).den) : (r21).den := (M21 x).getD (r21).dflt
def k21 : Con := ⟨a21, r21, p21, v21⟩
theorem h21 : Holds Try.prog 21 k21 := holds_of_M' (E := E0) follows_ok g21 eqTy_sound keyTy_sound at21 bd21 (by kernel_rfl) m21 fun G' hlo hF hE => LsOK_kn (by rw [lo21]; exact .cons (loopV_ok hE hF hlo (LsOK_kn (by rw [lo21x0]; exact .cons (loopV_ok hE hF hlo (LsOK_kn (by rw [lo21x0x0]; exact .nil)) (by kernel_rfl) (by kernel_rfl) sp21x0x0 (fun _ => rfl) (fun _ _ => rfl) (s21x0x0) big) (.nil))) (by kernel_rfl) (by kernel_rfl) sp21x0 (fun _ => rfl) (fun _ _ => rfl) (s21x0) big) (.nil))
abbrev T97 : Ty := (.cons T12 T13)
abbrev T98 : Ty := (.cons T18 T4)
abbrev T99 : Ty := (.cons T18 T43)
abbrev T100 : Ty := (.sl T43)
abbrev T101 : Ty := (.cons T100 .nil)
abbrev T102 : Ty := (.cons T18 T101)
abbrev T103 : Ty := (.cons T100 T0)
abbrev T104 : Ty := (.cons T18 T103)
noncomputable def c27 : Code := Try.f27.body.getD .skip
theorem at27 : Try.prog.funcs[27]? = some Try.f27 := by kernel_rfl
theorem bd27 : Try.f27.body = some c27 := by kernel_rfl
theorem cl27 : Callable Try.prog 27 := callable_of at27 (by kernel_rfl) (by kernel_rfl)
abbrev a27 : Ty := T19
abbrev r27 : Ty := T3
noncomputable def G27 : Ctx := Ctx.of []
theorem g27 : Sound Try.prog (G27) := sound_of (fun _ h => by cases h)
noncomputable def b27x0 : Code := loopBody ((loopsOf (c27))[0]?)
theorem lo27x0 : loopsOf (b27x0) = [] := by kernel_rfl
abbrev cs27x0 : List Pat := [.slot 1 (.ptr 1), .box 1 [.pc T16, .pc tI, .pc tI, .pc tI, .pc tI]]
abbrev vs27x0 : List Pat := [.slot 3 (.pc tI)]
abbrev ps27x0 : List Pat := cs27x0 ++ vs27x0
def j27x0 : ZJ cs27x0 vs27x0 ps27x0 := ZA _ _
def sp27x0 : ZS cs27x0 vs27x0 ps27x0 := ZP _ _
abbrev wy27x0 : Ways := ⟨[(0, [])], [.slot 2 (.pc .bool)], []⟩
abbrev wv27x0 : Ways := ⟨[(0, [])], [.slot 2 (.pc .bool)], []⟩
def je27x0 : ZE cs27x0 wv27x0 wy27x0 := fun id => match id with | 0 => fun c y => y | _ => ZDf
def Z27x0 {α : Type} (l : RQ vs27x0 wv27x0 → α) (an : α → α → α) (c : ZD cs27x0) (v : ZD vs27x0) : α := bif (decide (v.1 < ((c.2.1.1.n : Nat) : Int))) then bif (decide (((0 : Int) ≤ v.1) ∧ (v.1 < ((c.2.1.1.n : Nat) : Int)))) then bif (decide ((2 : Int) < (((c.2.1.1.g (Int.toNat v.1)).2.1.n : Nat) : Int))) then bif (decide ((3 : Int) < ((c.2.1.1.n : Nat) : Int))) then l (.out (.ret (false, ()))) else l (.next ((W (v.1 + (1 : Int))), ())) else l (.next ((W (v.1 + (1 : Int))), ())) else l .bad else l (.out (.exit 0 ()))
theorem z27x0 (c : ZD cs27x0) (v : ZD vs27x0) : roundQ Try.prog E0 G27 0 25 [] ps27x0 wy27x0 b27x0 [] (j27x0 c v) = Z27x0 (fun r => .leaf (r.lift j27x0 je27x0 ZI ZI c)) .any c v := by kernel_rfl
def S27x0 (c : ZD cs27x0) (v : ZD vs27x0) : RQ vs27x0 wv27x0 := Z27x0 (fun r => r) (fun _ _ => .bad) c v
theorem s27x0 (c : ZD cs27x0) (v : ZD vs27x0) : detQ (roundQ Try.prog E0 G27 0 25 [] ps27x0 wy27x0 b27x0 [] (j27x0 c v)) = (S27x0 c v).lift j27x0 je27x0 ZI ZI c := by rw [z27x0]; unfold S27x0 Z27x0; simp only [detQ, lift_bad, dqs]
def L27x0 (c : ZD cs27x0) (v : ZD vs27x0) : LQ wv27x0 := iterQ (S27x0 c) big v
theorem lo27 : loopsOf (c27) = [.loop b27x0] := by kernel_rfl
noncomputable def l27 : List Loop := [.known (loopZ 0 [] ps27x0 fun x => spreadV wy27x0 je27x0 ZI ZI [] true (sp27x0 x).1 (L27x0 (sp27x0 x).1 (sp27x0 x).2) wy27x0.exits)]
def Q27 {α : Type} (l : Option (r27).den → α) (an : α → α → α) (x : (a27).den) : α := onExit (L27x0 ((), (x.1, ())) ((0 : Int), ())) 0 (fun u0 => l (some (true, ()))) (onRet (L27x0 ((), (x.1, ())) ((0 : Int), ())) (fun u1 => l (some u1)) (l none))
theorem q27 (x : (a27).den) : runFn Try.prog E0 G27 Try.f27 l27 a27 r27 x = Q27 .leaf .any x := by kernel_rfl
def M27 (x : (a27).den) : Option (r27).den := Q27 (fun r => r) (fun _ _ => none) x
theorem m27 (x : (a27).den) : (runFn Try.prog E0 G27 Try.f27 l27 a27 r27 x).sure = M27 x := by rw [q27]; unfold M27 Q27; simp only [Tree.sure, sus]
def p27 (x : (a27).den) : Bool := (M27 x).isSome
def v27 (x : (a27).den) : (r27).den := (M27 x).getD (r27).dflt
def k27 : Con := ⟨a27, r27, p27, v27⟩
theorem h27 : Holds Try.prog 27 k27 := holds_of_M' (E := E0) follows_ok g27 eqTy_sound keyTy_sound at27 bd27 (by kernel_rfl) m27 fun G' hlo hF hE => LsOK_kn (by rw [lo27]; exact .cons (loopV_ok hE hF hlo (LsOK_kn (by rw [lo27x0]; exact .nil)) (by kernel_rfl) (by kernel_rfl) sp27x0 (fun _ => rfl) (fun _ _ => rfl) (s27x0) big) (.nil))
abbrev T105 : Ty := (.cons T42 T1)
abbrev T106 : Ty := (.cons T12 T1)
noncomputable def c89 : Code := Try.f89.body.getD .skip
theorem at89 : Try.prog.funcs[89]? = some Try.f89 := by kernel_rfl
theorem bd89 : Try.f89.body = some c89 := by kernel_rfl
theorem cl89 : Callable Try.prog 89 := callable_of at89 (by kernel_rfl) (by kernel_rfl)
abbrev a89 : Ty := T87
abbrev r89 : Ty := T80
noncomputable def G89 : Ctx := Ctx.of [(77, .pure k77)]
theorem g89 : Sound Try.prog (G89) := sound_of (List.forall_mem_cons.2 ⟨⟨cl77, h77⟩, fun _ h => by cases h⟩)
theorem lo89 : loopsOf (c89) = [] := by kernel_rfl
noncomputable def l89 : List Loop := []
def Q89 {α : Type} (l : Option (r89).den → α) (an : α → α → α) (x : (a89).den) : α := bif (decide (((0 : Int) ≤ (0 : Int)) ∧ (((0 : Int) ≤ (W (x.1 + (1 : Int)))) ∧ ((W (x.1 + (1 : Int))) ≤ ((x.2.1.1.n : Nat) : Int))))) then cl (r77).dflt (M77 (((⟨(Int.toNat ((W (x.1 + (1 : Int))) - (0 : Int))), fun i => (x.2.1.1.g (i + 0))⟩ : Sl _), x.2.1.2), ())) (fun u0 => l (some (true, ((!u0.1), ())))) (l none) else l none
theorem q89 (x : (a89).den) : runFn Try.prog E0 G89 Try.f89 l89 a89 r89 x = Q89 .leaf .any x := by kernel_rfl
def M89 (x : (a89).den) : Option (r89).den := Q89 (fun r => r) (fun _ _ => none) x
theorem m89 (x : (a89).den) : (runFn Try.prog E0 G89 Try.f89 l89 a89 r89 x).sure = M89 x := by rw [q89]; unfold M89 Q89; simp only [Tree.sure, sus]
def p89 (x : (a89).den) : Bool := (M89 x).isSome
def v89 (x : (a89).den) : (r89).den := (M89 x).getD (r89).dflt
def k89 : Con := ⟨a89, r89, p89, v89⟩
theorem h89 : Holds Try.prog 89 k89 := holds_of_M' (E := E0) follows_ok g89 eqTy_sound keyTy_sound at89 bd89 (by kernel_rfl) m89 fun G' hlo hF hE => LsOK_kn (by rw [lo89]; exact .nil)
noncomputable def c46 : Code := Try.f46.body.getD .skip
theorem at46 : Try.prog.funcs[46]? = some Try.f46 := by kernel_rfl
theorem bd46 : Try.f46.body = some c46 := by kernel_rfl
theorem cl46 : Callable Try.prog 46 := callable_of at46 (by kernel_rfl) (by kernel_rfl)
abbrev a46 : Ty := T19
abbrev r46 : Ty := T1
noncomputable def G46 : Ctx := Ctx.of [(74, .pure k74), (75, .pure k75), (89, .pure k89)]
theorem g46 : Sound Try.prog (G46) := sound_of (List.forall_mem_cons.2 ⟨⟨cl74, h74⟩, List.forall_mem_cons.2 ⟨⟨cl75, h75⟩, List.forall_mem_cons.2 ⟨⟨cl89, h89⟩, fun _ h => by cases h⟩⟩⟩)
theorem lo46 : loopsOf (c46) = [] := by kernel_rfl
noncomputable def l46 : List Loop := []
def Q46 {α : Type} (l : Option (r46).den → α) (an : α → α → α) (x : (a46).den) : α := cl (r74).dflt (M74 (x.1, ())) (fun u0 => bif (!u0.1) then l (some ((0 : Int), ((2 : Int), ()))) else cl (r75).dflt (M75 ((0 : Int), ((W (((x.1.1.n : Nat) : Int) - (1 : Int))), ((fun y1 => ((p89 (y1.1, (x.1, ()))), (v89 (y1.1, (x.1, ()))))), ())))) (fun u1 => bif (!u1.2.2.1) then l (some ((0 : Int), ((5 : Int), ()))) else l (some (u1.2.1, ((0 : Int), ())))) (l none)) (l none)
theorem q46 (x : (a46).den) : runFn Try.prog E0 G46 Try.f46 l46 a46 r46 x = Q46 .leaf .any x := by kernel_rfl
def M46 (x : (a46).den) : Option (r46).den := Q46 (fun r => r) (fun _ _ => none) x
theorem m46 (x : (a46).den) : (runFn Try.prog E0 G46 Try.f46 l46 a46 r46 x).sure = M46 x := by rw [q46]; unfold M46 Q46; simp only [Tree.sure, sus]
def p46 (x : (a46).den) : Bool := (M46 x).isSome
def v46 (x : (a46).den) : (r46).den := (M46 x).getD (r46).dflt
def k46 : Con := ⟨a46, r46, p46, v46⟩
theorem h46 : Holds Try.prog 46 k46 := holds_of_M' (E := E0) follows_ok g46 eqTy_sound keyTy_sound at46 bd46 (by kernel_rfl) m46 fun G' hlo hF hE => LsOK_kn (by rw [lo46]; exact .nil)
abbrev T107 : Ty := (.cons T42 T79)
abbrev T108 : Ty := (.cons T42 T107)
abbrev T109 : Ty := (.agg T108)
abbrev T110 : Ty := (.cons T109 .nil)
abbrev T111 : Ty := (.cons T18 T110)
abbrev T112 : Ty := (.agg T15)
abbrev T113 : Ty := (.cons T112 .nil)
abbrev T114 : Ty := (.cons (.sl T0) T113)
abbrev T115 : Ty := (.fn T114 T3)
abbrev T116 : Ty := (.cons T115 .nil)
abbrev T117 : Ty := (.cons T16 T116)
abbrev T118 : Ty := (.cons T42 T117)
abbrev T119 : Ty := (.cons .bool T0)
abbrev T120 : Ty := (.cons tI T20)
noncomputable def c17 : Code := Try.f17.body.getD .skip
theorem at17 : Try.prog.funcs[17]? = some Try.f17 := by kernel_rfl
theorem bd17 : Try.f17.body = some c17 := by kernel_rfl
theorem cl17 : Callable Try.prog 17 := callable_of at17 (by kernel_rfl) (by kernel_rfl)
abbrev a17 : Ty := .nil
abbrev r17 : Ty := T3
noncomputable def G17 : Ctx := Ctx.of [(18, .pure k18), (19, .pure k19), (20, .pure k20), (23, .pure k23), (28, .pure k28), (36, .pure k36), (39, .pure k39), (40, .pure k40), (41, .pure k41), (43, .pure k43), (44, .pure k44), (48, .pure k48), (62, .pure k62)]
theorem g17 : Sound Try.prog (G17) := sound_of (List.forall_mem_cons.2 ⟨⟨cl18, h18⟩, List.forall_mem_cons.2 ⟨⟨cl19, h19⟩, List.forall_mem_cons.2 ⟨⟨cl20, h20⟩, List.forall_mem_cons.2 ⟨⟨cl23, h23⟩, List.forall_mem_cons.2 ⟨⟨cl28, h28⟩, List.forall_mem_cons.2 ⟨⟨cl36, h36⟩, List.forall_mem_cons.2 ⟨⟨cl39, h39⟩, List.forall_mem_cons.2 ⟨⟨cl40, h40⟩, List.forall_mem_cons.2 ⟨⟨cl41, h41⟩, List.forall_mem_cons.2 ⟨⟨cl43, h43⟩, List.forall_mem_cons.2 ⟨⟨cl44, h44⟩, List.forall_mem_cons.2 ⟨⟨cl48, h48⟩, List.forall_mem_cons.2 ⟨⟨cl62, h62⟩, fun _ h => by cases h⟩⟩⟩⟩⟩⟩⟩⟩⟩⟩⟩⟩⟩)
theorem lo17 : loopsOf (c17) = [] := by kernel_rfl
noncomputable def l17 : List Loop := []
def Q17 {α : Type} (l : Option (r17).den → α) (an : α → α → α) (x : (a17).den) : α := cl (r62).dflt (M62 ()) (fun u0 => cl (r18).dflt (M18 (u0.1, ((1 : Int), ()))) (fun u1 => cl (r62).dflt (M62 ()) (fun u2 => cl (r19).dflt (M19 (u0.1, ())) (fun u3 => cl (r62).dflt (M62 ()) (fun u4 => cl (r20).dflt (M20 (u0.1, ())) (fun u5 => cl (r62).dflt (M62 ()) (fun u6 => cl (r39).dflt (M39 (u0.1, ((0 : Int), ((0 : Int), ())))) (fun u7 => cl (r62).dflt (M62 ()) (fun u8 => cl (r36).dflt (M36 (u0.1, ((1 : Int), ((0 : Int), ())))) (fun u9 => cl (r62).dflt (M62 ()) (fun u10 => cl (r43).dflt (M43 (u0.1, ((0 : Int), ((3 : Int), ())))) (fun u11 => cl (r62).dflt (M62 ()) (fun u12 => cl (r40).dflt (M40 (u0.1, ())) (fun u13 => cl (r62).dflt (M62 ()) (fun u14 => cl (r28).dflt (M28 (u0.1, ())) (fun u15 => bif (!(decide (u1.2.1 = (0 : Int)))) then l (some (false, ())) else bif (!(decide (u3.2.1 = (0 : Int)))) then l (some (false, ())) else bif (!(decide (u5.2.1 = (0 : Int)))) then l (some (false, ())) else bif (!(decide (u7.2.1 = (0 : Int)))) then l (some (false, ())) else bif (!(decide (u9.2.1 = (0 : Int)))) then l (some (false, ())) else bif (!(decide (u11.2.1 = (0 : Int)))) then l (some (false, ())) else bif (!(decide (u13.2.2.1 = (0 : Int)))) then l (some (false, ())) else bif (!(decide (u15.2.1 = (0 : Int)))) then l (some (false, ())) else cl (r23).dflt (M23 (u1.1, ((⟨2, fun i => List.getD [((⟨2, fun i => List.getD [((3 : Int), ()), ((1 : Int), ())] i ((3 : Int), ())⟩ : Sl _), ()), ((⟨2, fun i => List.getD [((1 : Int), ()), ((3 : Int), ())] i ((1 : Int), ())⟩ : Sl _), ())] i ((⟨2, fun i => List.getD [((3 : Int), ()), ((1 : Int), ())] i ((3 : Int), ())⟩ : Sl _), ())⟩ : Sl _), ()))) (fun u16 => bif (!u16.1) then l (some (false, ())) else cl (r23).dflt (M23 (u3.1, ((⟨2, fun i => List.getD [((⟨2, fun i => List.getD [((1 : Int), ()), ((1 : Int), ())] i ((1 : Int), ())⟩ : Sl _), ()), ((⟨1, fun i => List.getD [((1 : Int), ())] i ((1 : Int), ())⟩ : Sl _), ())] i ((⟨2, fun i => List.getD [((1 : Int), ()), ((1 : Int), ())] i ((1 : Int), ())⟩ : Sl _), ())⟩ : Sl _), ()))) (fun u17 => bif (!u17.1) then l (some (false, ())) else cl (r23).dflt (M23 (u5.1, ((⟨2, fun i => List.getD [((⟨2, fun i => List.getD [((1 : Int), ()), ((1 : Int), ())] i ((1 : Int), ())⟩ : Sl _), ()), ((⟨2, fun i => List.getD [((2 : Int), ()), ((2 : Int), ())] i ((2 : Int), ())⟩ : Sl _), ())] i ((⟨2, fun i => List.getD [((1 : Int), ()), ((1 : Int), ())] i ((1 : Int), ())⟩ : Sl _), ())⟩ : Sl _), ()))) (fun u18 => bif (!u18.1) then l (some (false, ())) else cl (r41).dflt (M41 (u7.1, ((⟨2, fun i => List.getD [((⟨2, fun i => List.getD [((0 : Int), ()), ((0 : Int), ())] i ((0 : Int), ())⟩ : Sl _), ()), ((⟨3, fun i => List.getD [((0 : Int), ()), ((0 : Int), ()), ((0 : Int), ())] i ((0 : Int), ())⟩ : Sl _), ())] i ((⟨2, fun i => List.getD [((0 : Int), ()), ((0 : Int), ())] i ((0 : Int), ())⟩ : Sl _), ())⟩ : Sl _), ()))) (fun u19 => bif (!u19.1) then l (some (false, ())) else cl (r48).dflt (M48 ((20 : Int), ((21 : Int), ()))) (fun u20 => cl (r48).dflt (M48 ((50 : Int), ((52 : Int), ()))) (fun u21 => cl (r48).dflt (M48 ((74100 : Int), ((74300 : Int), ()))) (fun u22 => cl (r44).dflt (M44 (u20.1, (u21.1, (u22.1, ())))) (fun u23 => bif ((decide (u9.1.1 = u23.1.1)) && ((decide (u9.1.2.1 = u23.1.2.1)) && ((decide (u9.1.2.2.1 = u23.1.2.2.1)) && ((decide (u9.1.2.2.2.1 = u23.1.2.2.2.1)) && ((decide (u9.1.2.2.2.2.1 = u23.1.2.2.2.2.1)) && ((decide (u9.1.2.2.2.2.2.1 = u23.1.2.2.2.2.2.1)) && true)))))) then cl (r48).dflt (M48 ((25 : Int), ((39 : Int), ()))) (fun u24 => cl (r48).dflt (M48 ((46 : Int), ((59 : Int), ()))) (fun u25 => cl (r48).dflt (M48 ((74050 : Int), ((75050 : Int), ()))) (fun u26 => cl (r44).dflt (M44 (u24.1, (u25.1, (u26.1, ())))) (fun u27 => bif ((decide (u11.1.1 = u27.1.1)) && ((decide (u11.1.2.1 = u27.1.2.1)) && ((decide (u11.1.2.2.1 = u27.1.2.2.1)) && ((decide (u11.1.2.2.2.1 = u27.1.2.2.2.1)) && ((decide (u11.1.2.2.2.2.1 = u27.1.2.2.2.2.1)) && ((decide (u11.1.2.2.2.2.2.1 = u27.1.2.2.2.2.2.1)) && true)))))) then bif (decide (u13.1 = (2 : Int))) then cl (r41).dflt (M41 (u13.2.1, ((⟨3, fun i => List.getD [((⟨2, fun i => List.getD [((-1 : Int), ()), ((-1 : Int), ())] i ((-1 : Int), ())⟩ : Sl _), ()), ((⟨2, fun i => List.getD [((0 : Int), ()), ((1 : Int), ())] i ((0 : Int), ())⟩ : Sl _), ()), ((⟨1, fun i => List.getD [((0 : Int), ())] i ((0 : Int), ())⟩ : Sl _), ())] i ((⟨2, fun i => List.getD [((-1 : Int), ()), ((-1 : Int), ())] i ((-1 : Int), ())⟩ : Sl _), ())⟩ : Sl _), ()))) (fun u28 => bif u28.1 then l (some ((decide (u15.1 = (2 : Int))), ())) else l (some (false, ()))) (l none) else l (some (false, ())) else l (some (false, ()))) (l none)) (l none)) (l none)) (l none) else l (some (false, ()))) (l none)) (l none)) (l none)) (l none)) (l none)) (l none)) (l none)) (l none)) (l none)) (l none)) (l none)) (l none)) (l none)) (l none)) (l none)) (l none)) (l none)) (l none)) (l none)) (l none)) (l none)) (l none)) (l none)) (l none)
def Q17g (m18 : (a18).den → Option (r18).den) (m19 : (a19).den → Option (r19).den) (m20 : (a20).den → Option (r20).den) (m23 : (a23).den → Option (r23).den) (m28 : (a28).den → Option (r28).den) (m36 : (a36).den → Option (r36).den) (m39 : (a39).den → Option (r39).den) (m40 : (a40).den → Option (r40).den) (m41 : (a41).den → Option (r41).den) (m43 : (a43).den → Option (r43).den) (m44 : (a44).den → Option (r44).den) (m48 : (a48).den → Option (r48).den) (m62 : (a62).den → Option (r62).den) {α : Type} (l : Option (r17).den → α) (an : α → α → α) (x : (a17).den) : α := cl (r62).dflt (m62 ()) (fun u0 => cl (r18).dflt (m18 (u0.1, ((1 : Int), ()))) (fun u1 => cl (r62).dflt (m62 ()) (fun u2 => cl (r19).dflt (m19 (u0.1, ())) (fun u3 => cl (r62).dflt (m62 ()) (fun u4 => cl (r20).dflt (m20 (u0.1, ())) (fun u5 => cl (r62).dflt (m62 ()) (fun u6 => cl (r39).dflt (m39 (u0.1, ((0 : Int), ((0 : Int), ())))) (fun u7 => cl (r62).dflt (m62 ()) (fun u8 => cl (r36).dflt (m36 (u0.1, ((1 : Int), ((0 : Int), ())))) (fun u9 => cl (r62).dflt (m62 ()) (fun u10 => cl (r43).dflt (m43 (u0.1, ((0 : Int), ((3 : Int), ())))) (fun u11 => cl (r62).dflt (m62 ()) (fun u12 => cl (r40).dflt (m40 (u0.1, ())) (fun u13 => cl (r62).dflt (m62 ()) (fun u14 => cl (r28).dflt (m28 (u0.1, ())) (fun u15 => bif (!(decide (u1.2.1 = (0 : Int)))) then l (some (false, ())) else bif (!(decide (u3.2.1 = (0 : Int)))) then l (some (false, ())) else bif (!(decide (u5.2.1 = (0 : Int)))) then l (some (false, ())) else bif (!(decide (u7.2.1 = (0 : Int)))) then l (some (false, ())) else bif (!(decide (u9.2.1 = (0 : Int)))) then l (some (false, ())) else bif (!(decide (u11.2.1 = (0 : Int)))) then l (some (false, ())) else bif (!(decide (u13.2.2.1 = (0 : Int)))) then l (some (false, ())) else bif (!(decide (u15.2.1 = (0 : Int)))) then l (some (false, ())) else cl (r23).dflt (m23 (u1.1, ((⟨2, fun i => List.getD [((⟨2, fun i => List.getD [((3 : Int), ()), ((1 : Int), ())] i ((3 : Int), ())⟩ : Sl _), ()), ((⟨2, fun i => List.getD [((1 : Int), ()), ((3 : Int), ())] i ((1 : Int), ())⟩ : Sl _), ())] i ((⟨2, fun i => List.getD [((3 : Int), ()), ((1 : Int), ())] i ((3 : Int), ())⟩ : Sl _), ())⟩ : Sl _), ()))) (fun u16 => bif (!u16.1) then l (some (false, ())) else cl (r23).dflt (m23 (u3.1, ((⟨2, fun i => List.getD [((⟨2, fun i => List.getD [((1 : Int), ()), ((1 : Int), ())] i ((1 : Int), ())⟩ : Sl _), ()), ((⟨1, fun i => List.getD [((1 : Int), ())] i ((1 : Int), ())⟩ : Sl _), ())] i ((⟨2, fun i => List.getD [((1 : Int), ()), ((1 : Int), ())] i ((1 : Int), ())⟩ : Sl _), ())⟩ : Sl _), ()))) (fun u17 => bif (!u17.1) then l (some (false, ())) else cl (r23).dflt (m23 (u5.1, ((⟨2, fun i => List.getD [((⟨2, fun i => List.getD [((1 : Int), ()), ((1 : Int), ())] i ((1 : Int), ())⟩ : Sl _), ()), ((⟨2, fun i => List.getD [((2 : Int), ()), ((2 : Int), ())] i ((2 : Int), ())⟩ : Sl _), ())] i ((⟨2, fun i => List.getD [((1 : Int), ()), ((1 : Int), ())] i ((1 : Int), ())⟩ : Sl _), ())⟩ : Sl _), ()))) (fun u18 => bif (!u18.1) then l (some (false, ())) else cl (r41).dflt (m41 (u7.1, ((⟨2, fun i => List.getD [((⟨2, fun i => List.getD [((0 : Int), ()), ((0 : Int), ())] i ((0 : Int), ())⟩ : Sl _), ()), ((⟨3, fun i => List.getD [((0 : Int), ()), ((0 : Int), ()), ((0 : Int), ())] i ((0 : Int), ())⟩ : Sl _), ())] i ((⟨2, fun i => List.getD [((0 : Int), ()), ((0 : Int), ())] i ((0 : Int), ())⟩ : Sl _), ())⟩ : Sl _), ()))) (fun u19 => bif (!u19.1) then l (some (false, ())) else cl (r48).dflt (m48 ((20 : Int), ((21 : Int), ()))) (fun u20 => cl (r48).dflt (m48 ((50 : Int), ((52 : Int), ()))) (fun u21 => cl (r48).dflt (m48 ((74100 : Int), ((74300 : Int), ()))) (fun u22 => cl (r44).dflt (m44 (u20.1, (u21.1, (u22.1, ())))) (fun u23 => bif ((decide (u9.1.1 = u23.1.1)) && ((decide (u9.1.2.1 = u23.1.2.1)) && ((decide (u9.1.2.2.1 = u23.1.2.2.1)) && ((decide (u9.1.2.2.2.1 = u23.1.2.2.2.1)) && ((decide (u9.1.2.2.2.2.1 = u23.1.2.2.2.2.1)) && ((decide (u9.1.2.2.2.2.2.1 = u23.1.2.2.2.2.2.1)) && true)))))) then cl (r48).dflt (m48 ((25 : Int), ((39 : Int), ()))) (fun u24 => cl (r48).dflt (m48 ((46 : Int), ((59 : Int), ()))) (fun u25 => cl (r48).dflt (m48 ((74050 : Int), ((75050 : Int), ()))) (fun u26 => cl (r44).dflt (m44 (u24.1, (u25.1, (u26.1, ())))) (fun u27 => bif ((decide (u11.1.1 = u27.1.1)) && ((decide (u11.1.2.1 = u27.1.2.1)) && ((decide (u11.1.2.2.1 = u27.1.2.2.1)) && ((decide (u11.1.2.2.2.1 = u27.1.2.2.2.1)) && ((decide (u11.1.2.2.2.2.1 = u27.1.2.2.2.2.1)) && ((decide (u11.1.2.2.2.2.2.1 = u27.1.2.2.2.2.2.1)) && true)))))) then bif (decide (u13.1 = (2 : Int))) then cl (r41).dflt (m41 (u13.2.1, ((⟨3, fun i => List.getD [((⟨2, fun i => List.getD [((-1 : Int), ()), ((-1 : Int), ())] i ((-1 : Int), ())⟩ : Sl _), ()), ((⟨2, fun i => List.getD [((0 : Int), ()), ((1 : Int), ())] i ((0 : Int), ())⟩ : Sl _), ()), ((⟨1, fun i => List.getD [((0 : Int), ())] i ((0 : Int), ())⟩ : Sl _), ())] i ((⟨2, fun i => List.getD [((-1 : Int), ()), ((-1 : Int), ())] i ((-1 : Int), ())⟩ : Sl _), ())⟩ : Sl _), ()))) (fun u28 => bif u28.1 then l (some ((decide (u15.1 = (2 : Int))), ())) else l (some (false, ()))) (l none) else l (some (false, ())) else l (some (false, ()))) (l none)) (l none)) (l none)) (l none) else l (some (false, ()))) (l none)) (l none)) (l none)) (l none)) (l none)) (l none)) (l none)) (l none)) (l none)) (l none)) (l none)) (l none)) (l none)) (l none)) (l none)) (l none)) (l none)) (l none)) (l none)) (l none)) (l none)) (l none)) (l none)) (l none)
theorem q17g (m18 : (a18).den → Option (r18).den) (m19 : (a19).den → Option (r19).den) (m20 : (a20).den → Option (r20).den) (m23 : (a23).den → Option (r23).den) (m28 : (a28).den → Option (r28).den) (m36 : (a36).den → Option (r36).den) (m39 : (a39).den → Option (r39).den) (m40 : (a40).den → Option (r40).den) (m41 : (a41).den → Option (r41).den) (m43 : (a43).den → Option (r43).den) (m44 : (a44).den → Option (r44).den) (m48 : (a48).den → Option (r48).den) (m62 : (a62).den → Option (r62).den) (x : (a17).den) : runFn Try.prog E0 (Ctx.of [(18, .pure (conM (τa := a18) (τr := r18) m18)), (19, .pure (conM (τa := a19) (τr := r19) m19)), (20, .pure (conM (τa := a20) (τr := r20) m20)), (23, .pure (conM (τa := a23) (τr := r23) m23)), (28, .pure (conM (τa := a28) (τr := r28) m28)), (36, .pure (conM (τa := a36) (τr := r36) m36)), (39, .pure (conM (τa := a39) (τr := r39) m39)), (40, .pure (conM (τa := a40) (τr := r40) m40)), (41, .pure (conM (τa := a41) (τr := r41) m41)), (43, .pure (conM (τa := a43) (τr := r43) m43)), (44, .pure (conM (τa := a44) (τr := r44) m44)), (48, .pure (conM (τa := a48) (τr := r48) m48)), (62, .pure (conM (τa := a62) (τr := r62) m62))]) Try.f17 l17 a17 r17 x = Q17g m18 m19 m20 m23 m28 m36 m39 m40 m41 m43 m44 m48 m62 .leaf .any x := by kernel_rfl
theorem q17 (x : (a17).den) : runFn Try.prog E0 G17 Try.f17 l17 a17 r17 x = Q17 .leaf .any x := q17g M18 M19 M20 M23 M28 M36 M39 M40 M41 M43 M44 M48 M62 x
def M17 (x : (a17).den) : Option (r17).den := Q17 (fun r => r) (fun _ _ => none) x
theorem m17 (x : (a17).den) : (runFn Try.prog E0 G17 Try.f17 l17 a17 r17 x).sure = M17 x := by rw [q17]; unfold M17 Q17; simp only [Tree.sure, sus]
def p17 (x : (a17).den) : Bool := (M17 x).isSome
def v17 (x : (a17).den) : (r17).den := (M17 x).getD (r17).dflt
def k17 : Con := ⟨a17, r17, p17, v17⟩
theorem h17 : Holds Try.prog 17 k17 := holds_of_M' (E := E0) follows_ok g17 eqTy_sound keyTy_sound at17 bd17 (by kernel_rfl) m17 fun G' hlo hF hE => LsOK_kn (by rw [lo17]; exact .nil)
abbrev T121 : Ty := (.cons tI T6)
abbrev T122 : Ty := (.cons T18 T121)
noncomputable def c11 : Code := Try.f11.body.getD .skip
theorem at11 : Try.prog.funcs[11]? = some Try.f11 := by kernel_rfl
theorem bd11 : Try.f11.body = some c11 := by kernel_rfl
theorem cl11 : Callable Try.prog 11 := callable_of at11 (by kernel_rfl) (by kernel_rfl)
abbrev a11 : Ty := T76
abbrev r11 : Ty := T3
noncomputable def G11 : Ctx := Ctx.of [(16, .pure k16), (17, .pure k17), (21, .pure k21), (27, .pure k27), (28, .pure k28), (46, .pure k46)]
theorem g11 : Sound Try.prog (G11) := sound_of (List.forall_mem_cons.2 ⟨⟨cl16, h16⟩, List.forall_mem_cons.2 ⟨⟨cl17, h17⟩, List.forall_mem_cons.2 ⟨⟨cl21, h21⟩, List.forall_mem_cons.2 ⟨⟨cl27, h27⟩, List.forall_mem_cons.2 ⟨⟨cl28, h28⟩, List.forall_mem_cons.2 ⟨⟨cl46, h46⟩, fun _ h => by cases h⟩⟩⟩⟩⟩⟩)
theorem lo11 : loopsOf (c11) = [] := by kernel_rfl
noncomputable def l11 : List Loop := []
def Q11 {α : Type} (l : Option (r11).den → α) (an : α → α → α) (x : (a11).den) : α := cl (r16).dflt (M16 (x.1, ())) (fun u0 => bif (!u0.1) then cl (r17).dflt (M17 ()) (fun u1 => l (some u1)) (l none) else cl (r21).dflt (M21 (x.1, ())) (fun u2 => bif (!u2.1) then cl (r17).dflt (M17 ()) (fun u3 => l (some u3)) (l none) else cl (r27).dflt (M27 (x.1, ())) (fun u4 => bif (!u4.1) then cl (r17).dflt (M17 ()) (fun u5 => l (some u5)) (l none) else cl (r28).dflt (M28 (x.1, ())) (fun u6 => cl (r46).dflt (M46 (x.1, ())) (fun u7 => bif (!(decide (u6.2.1 = (0 : Int)))) then cl (r46).dflt (M46 ((x.1.1, ((50 : Int), x.1.2.2)), ())) (fun u8 => bif (decide (u6.2.1 = (5 : Int))) then bif (decide (u7.2.1 = (0 : Int))) then bif (decide (u8.2.1 = (0 : Int))) then cl (r17).dflt (M17 ()) (fun u9 => l (some u9)) (l none) else l (some (false, ())) else l (some (false, ())) else l (some (false, ()))) (l none) else bif (decide (u6.1 < (0 : Int))) then l (some (false, ())) else bif (decide ((50 : Int) < u6.1)) then l (some (false, ())) else bif (!((decide (u7.2.1 = (5 : Int))) == (decide (u6.1 ≤ x.1.2.1)))) then l (some (false, ())) else cl (r46).dflt (M46 ((x.1.1, (u6.1, x.1.2.2)), ())) (fun u10 => bif (!(decide (u10.2.1 = (5 : Int)))) then l (some (false, ())) else bif (decide ((0 : Int) ≤ x.2.1)) then bif (decide (x.2.1 < u6.1)) then cl (r46).dflt (M46 ((x.1.1, (x.2.1, x.1.2.2)), ())) (fun u11 => bif (decide (u11.2.1 = (0 : Int))) then cl (r17).dflt (M17 ()) (fun u12 => l (some u12)) (l none) else l (some (false, ()))) (l none) else cl (r17).dflt (M17 ()) (fun u13 => l (some u13)) (l none) else cl (r17).dflt (M17 ()) (fun u14 => l (some u14)) (l none)) (l none)) (l none)) (l none)) (l none)) (l none)) (l none)
theorem q11 (x : (a11).den) : runFn Try.prog E0 G11 Try.f11 l11 a11 r11 x = Q11 .leaf .any x := by kernel_rfl
def M11 (x : (a11).den) : Option (r11).den := Q11 (fun r => r) (fun _ _ => none) x
theorem m11 (x : (a11).den) : (runFn Try.prog E0 G11 Try.f11 l11 a11 r11 x).sure = M11 x := by rw [q11]; unfold M11 Q11; simp only [Tree.sure, sus]
def p11 (x : (a11).den) : Bool := (M11 x).isSome
def v11 (x : (a11).den) : (r11).den := (M11 x).getD (r11).dflt
def k11 : Con := ⟨a11, r11, p11, v11⟩
theorem h11 : Holds Try.prog 11 k11 := holds_of_M' (E := E0) follows_ok g11 eqTy_sound keyTy_sound at11 bd11 (by kernel_rfl) m11 fun G' hlo hF hE => LsOK_kn (by rw [lo11]; exact .nil)
abbrev T123 : Ty := (.cons T109 T5)
abbrev T124 : Ty := (.cons T18 T123)
end Go.Dm
