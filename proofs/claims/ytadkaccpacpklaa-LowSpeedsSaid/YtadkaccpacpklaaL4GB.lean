/-
 Each function of the program as a Lean function, and that its calls come to what that says.
-/
import Derived.Test.YtadkaccpacpklaaL4GA
set_option linter.unusedVariables false
set_option linter.unusedSimpArgs false
namespace Go.Dm
open Go.RowKit Go.Proofs
set_option maxRecDepth 100000
noncomputable def c84 : Code := Try.f84.body.getD .skip
theorem at84 : Try.prog.funcs[84]? = some Try.f84 := by kernel_rfl
theorem bd84 : Try.f84.body = some c84 := by kernel_rfl
theorem cl84 : Callable Try.prog 84 := callable_of at84 (by kernel_rfl) (by kernel_rfl)
abbrev a84 : Ty := T91
abbrev r84 : Ty := T0
noncomputable def G84 : Ctx := Ctx.of [(114, .pure k114)]
theorem g84 : Sound Try.prog (G84) := sound_of (List.forall_mem_cons.2 ⟨⟨cl114, h114⟩, fun _ h => by cases h⟩)
noncomputable def b84x0 : Code := loopBody ((loopsOf (c84))[0]?)
theorem lo84x0 : loopsOf (b84x0) = [] := by kernel_rfl
abbrev cs84x0 : List Pat := [.slot 0 (.pc (.sl T0)), .slot 1 (.pc (.sl T0)), .slot 9 (.pc (.sl T0)), .slot 10 (.pc tI)]
abbrev vs84x0 : List Pat := [.slot 11 (.pc tI)]
abbrev ps84x0 : List Pat := cs84x0 ++ vs84x0
def j84x0 : ZJ cs84x0 vs84x0 ps84x0 := ZA _ _
def sp84x0 : ZS cs84x0 vs84x0 ps84x0 := ZP _ _
abbrev wy84x0 : Ways := ⟨[(0, [.slot 0 (.pc (.sl T0)), .slot 1 (.pc (.sl T0))])], [.slot 4 (.pc tI)], []⟩
abbrev wv84x0 : Ways := ⟨[(0, [])], [.slot 4 (.pc tI)], []⟩
def je84x0 : ZE cs84x0 wv84x0 wy84x0 := fun id => match id with | 0 => fun c y => (c.1, (c.2.1, y)) | _ => ZDf
def Z84x0 {α : Type} (l : RQ vs84x0 wv84x0 → α) (an : α → α → α) (c : ZD cs84x0) (v : ZD vs84x0) : α := bif (decide (v.1 < c.2.2.2.1)) then bif (decide (((0 : Int) ≤ v.1) ∧ (v.1 < ((c.2.2.1.n : Nat) : Int)))) then bif (decide (((c.2.1.n : Nat) : Int) ≤ v.1)) then l (.out (.ret ((1 : Int), ()))) else bif (decide (((0 : Int) ≤ v.1) ∧ (v.1 < ((c.2.1.n : Nat) : Int)))) then cl (r114).dflt (M114 ((c.2.2.1.g (Int.toNat v.1)).1, (c.2.1.g (Int.toNat v.1)))) (fun u0 => bif (!(decide (u0.1 = (0 : Int)))) then l (.out (.ret u0)) else l (.next ((W (v.1 + (1 : Int))), ()))) (l .bad) else l .bad else l .bad else l (.out (.exit 0 ()))
theorem z84x0 (c : ZD cs84x0) (v : ZD vs84x0) : roundQ Try.prog E0 G84 0 36 [] ps84x0 wy84x0 b84x0 [] (j84x0 c v) = Z84x0 (fun r => .leaf (r.lift j84x0 je84x0 ZI ZI c)) .any c v := by kernel_rfl
def S84x0 (c : ZD cs84x0) (v : ZD vs84x0) : RQ vs84x0 wv84x0 := Z84x0 (fun r => r) (fun _ _ => .bad) c v
theorem s84x0 (c : ZD cs84x0) (v : ZD vs84x0) : detQ (roundQ Try.prog E0 G84 0 36 [] ps84x0 wy84x0 b84x0 [] (j84x0 c v)) = (S84x0 c v).lift j84x0 je84x0 ZI ZI c := by rw [z84x0]; unfold S84x0 Z84x0; simp only [detQ, lift_bad, dqs]
def L84x0 (c : ZD cs84x0) (v : ZD vs84x0) : LQ wv84x0 := iterQ (S84x0 c) big v
theorem lo84 : loopsOf (c84) = [.loop b84x0] := by kernel_rfl
noncomputable def l84 : List Loop := [.known (loopZ 0 [] ps84x0 fun x => spreadV wy84x0 je84x0 ZI ZI [] true (sp84x0 x).1 (L84x0 (sp84x0 x).1 (sp84x0 x).2) wy84x0.exits)]
def Q84 {α : Type} (l : Option (r84).den → α) (an : α → α → α) (x : (a84).den) : α := onExit (L84x0 (x.1, (x.2.1, (x.1, (((x.1.n : Nat) : Int), ())))) ((0 : Int), ())) 0 (fun u1 => bif (decide (((x.1.n : Nat) : Int) < ((x.2.1.n : Nat) : Int))) then l (some ((-1 : Int), ())) else l (some ((0 : Int), ()))) (onRet (L84x0 (x.1, (x.2.1, (x.1, (((x.1.n : Nat) : Int), ())))) ((0 : Int), ())) (fun u2 => l (some u2)) (l none))
theorem q84 (x : (a84).den) : runFn Try.prog E0 G84 Try.f84 l84 a84 r84 x = Q84 .leaf .any x := by kernel_rfl
def M84 (x : (a84).den) : Option (r84).den := Q84 (fun r => r) (fun _ _ => none) x
theorem m84 (x : (a84).den) : (runFn Try.prog E0 G84 Try.f84 l84 a84 r84 x).sure = M84 x := by rw [q84]; unfold M84 Q84; simp only [Tree.sure, sus]
def p84 (x : (a84).den) : Bool := (M84 x).isSome
def v84 (x : (a84).den) : (r84).den := (M84 x).getD (r84).dflt
def k84 : Con := ⟨a84, r84, p84, v84⟩
theorem h84 : Holds Try.prog 84 k84 := holds_of_M' (E := E0) follows_ok g84 eqTy_sound keyTy_sound at84 bd84 (by kernel_rfl) m84 fun G' hlo hF hE => LsOK_kn (by rw [lo84]; exact .cons (loopV_ok hE hF hlo (LsOK_kn (by rw [lo84x0]; exact .nil)) (by kernel_rfl) (by kernel_rfl) sp84x0 (fun _ => rfl) (fun _ _ => rfl) (s84x0) big) (.nil))
noncomputable def c83 : Code := Try.f83.body.getD .skip
theorem at83 : Try.prog.funcs[83]? = some Try.f83 := by kernel_rfl
theorem bd83 : Try.f83.body = some c83 := by kernel_rfl
theorem cl83 : Callable Try.prog 83 := callable_of at83 (by kernel_rfl) (by kernel_rfl)
def so_ren : Go.Shelf.Ren := ⟨fun x => match x with | 6 => 83 | 15 => 113 | 14 => 112 | 28 => 130 | 29 => 131 | 20 => 122 | 21 => 123 | 22 => 124 | 23 => 125 | 24 => 126 | 25 => 127 | 26 => 128 | 27 => 129 | 46 => 136 | 47 => 137 | 48 => 138 | 49 => 139 | 50 => 140 | 57 => 141 | n => n, fun x => match x with | 22 => 58 | 24 => 79 | 25 => 113 | 3 => 3 | 39 => 140 | 0 => 0 | 53 => 160 | 55 => 162 | 4 => 4 | 46 => 153 | 45 => 152 | 50 => 157 | 5 => 5 | 9 => 9 | 66 => 165 | 70 => 169 | 76 => 171 | 77 => 172 | n => n, fun n => n⟩
theorem so_lay : Go.Proofs.SlLaysF.n6 Try.prog so_ren := { mixed := follows_ok, f6 := ⟨Try.f83.name, by kernel_rfl, by kernel_rfl⟩, f14 := ⟨Try.f112.name, by kernel_rfl, by kernel_rfl⟩, f15 := by kernel_rfl, f20 := ⟨Try.f122.name, by kernel_rfl, by kernel_rfl⟩, f21 := ⟨Try.f123.name, by kernel_rfl, by kernel_rfl⟩, f22 := ⟨Try.f124.name, by kernel_rfl, by kernel_rfl⟩, f23 := ⟨Try.f125.name, by kernel_rfl, by kernel_rfl⟩, f24 := ⟨Try.f126.name, by kernel_rfl, by kernel_rfl⟩, f25 := ⟨Try.f127.name, by kernel_rfl, by kernel_rfl⟩, f26 := ⟨Try.f128.name, by kernel_rfl, by kernel_rfl⟩, f27 := ⟨Try.f129.name, by kernel_rfl, by kernel_rfl⟩, f28 := by kernel_rfl, f29 := by kernel_rfl, f46 := ⟨Try.f136.name, by kernel_rfl, by kernel_rfl⟩, f47 := by kernel_rfl, f48 := by kernel_rfl, f49 := ⟨Try.f139.name, by kernel_rfl, by kernel_rfl⟩, f50 := ⟨Try.f140.name, by kernel_rfl, by kernel_rfl⟩, f57 := ⟨Try.f141.name, by kernel_rfl, by kernel_rfl⟩, t0 := Try.underlying0, a0 := Try.isAgg0, z0 := Try.sizeOf0, v0 := Try.zeroValue0, t3 := Try.underlying3, a3 := Try.isAgg3, z3 := Try.sizeOf3, v3 := Try.zeroValue3, t4 := Try.underlying4, a4 := Try.isAgg4, z4 := Try.sizeOf4, v4 := Try.zeroValue4, t5 := Try.underlying5, a5 := Try.isAgg5, z5 := Try.sizeOf5, v5 := Try.zeroValue5, t9 := Try.underlying9, a9 := Try.isAgg9, z9 := Try.sizeOf9, v9 := Try.zeroValue9, t22 := Try.underlying58, a22 := Try.isAgg58, z22 := Try.sizeOf58, v22 := Try.zeroValue58, a24 := Try.isAgg79, z24 := Try.sizeOf79, t25 := Try.underlying113, a25 := Try.isAgg113, z25 := Try.sizeOf113, v25 := Try.zeroValue113, t39 := Try.underlying140, a39 := Try.isAgg140, z39 := Try.sizeOf140, v39 := Try.zeroValue140, t45 := Try.underlying152, a45 := Try.isAgg152, z45 := Try.sizeOf152, v45 := Try.zeroValue152, t46 := Try.underlying153, a46 := Try.isAgg153, z46 := Try.sizeOf153, v46 := Try.zeroValue153, t50 := Try.underlying157, a50 := Try.isAgg157, z50 := Try.sizeOf157, v50 := Try.zeroValue157, t53 := Try.underlying160, a53 := Try.isAgg160, z53 := Try.sizeOf160, v53 := Try.zeroValue160, t55 := Try.underlying162, a55 := Try.isAgg162, z55 := Try.sizeOf162, v55 := Try.zeroValue162, t66 := Try.underlying165, a66 := Try.isAgg165, z66 := Try.sizeOf165, v66 := Try.zeroValue165, t70 := Try.underlying169, a70 := Try.isAgg169, z70 := Try.sizeOf169, v70 := Try.zeroValue169, t76 := Try.underlying171, a76 := Try.isAgg171, z76 := Try.sizeOf171, v76 := Try.zeroValue171, t77 := Try.underlying172, a77 := Try.isAgg172, z77 := Try.sizeOf172, v77 := Try.zeroValue172 }
theorem sh83 : GHolds Try.prog 83 (sortD1 84 (.sl tL1) p84 v84) := sortD1xholds (ρr := so_ren) so_lay cl84 rfl h84
theorem gbad84 : GHolds Try.prog 84 (fun _ _ _ _ => .leaf .bad) := fun _ _ _ _ _ _ _ _ _ _ _ _ _ _ _ _ hall => absurd rfl (hall .bad rfl)
noncomputable def c86 : Code := Try.f86.body.getD .skip
theorem at86 : Try.prog.funcs[86]? = some Try.f86 := by kernel_rfl
theorem bd86 : Try.f86.body = some c86 := by kernel_rfl
theorem cl86 : Callable Try.prog 86 := callable_of at86 (by kernel_rfl) (by kernel_rfl)
abbrev a86 : Ty := T91
abbrev r86 : Ty := T3
noncomputable def G86 : Ctx := Ctx.of []
theorem g86 : Sound Try.prog (G86) := sound_of (fun _ h => by cases h)
noncomputable def b86x0 : Code := loopBody ((loopsOf (c86))[0]?)
theorem lo86x0 : loopsOf (b86x0) = [] := by kernel_rfl
abbrev cs86x0 : List Pat := [.slot 0 (.pc (.sl T0)), .slot 1 (.pc (.sl T0)), .slot 12 (.pc tI)]
abbrev vs86x0 : List Pat := [.slot 13 (.pc tI)]
abbrev ps86x0 : List Pat := cs86x0 ++ vs86x0
def j86x0 : ZJ cs86x0 vs86x0 ps86x0 := ZA _ _
def sp86x0 : ZS cs86x0 vs86x0 ps86x0 := ZP _ _
abbrev wy86x0 : Ways := ⟨[(0, [])], [.slot 4 (.pc .bool)], []⟩
abbrev wv86x0 : Ways := ⟨[(0, [])], [.slot 4 (.pc .bool)], []⟩
def je86x0 : ZE cs86x0 wv86x0 wy86x0 := fun id => match id with | 0 => fun c y => y | _ => ZDf
def Z86x0 {α : Type} (l : RQ vs86x0 wv86x0 → α) (an : α → α → α) (c : ZD cs86x0) (v : ZD vs86x0) : α := bif (decide (v.1 < c.2.2.1)) then bif (decide (((0 : Int) ≤ v.1) ∧ (v.1 < ((c.1.n : Nat) : Int)))) then bif (decide (((0 : Int) ≤ v.1) ∧ (v.1 < ((c.2.1.n : Nat) : Int)))) then bif (!(decide ((c.1.g (Int.toNat v.1)).1 = (c.2.1.g (Int.toNat v.1)).1))) then l (.out (.ret (false, ()))) else l (.next ((W (v.1 + (1 : Int))), ())) else l .bad else l .bad else l (.out (.exit 0 ()))
theorem z86x0 (c : ZD cs86x0) (v : ZD vs86x0) : roundQ Try.prog E0 G86 0 26 [] ps86x0 wy86x0 b86x0 [] (j86x0 c v) = Z86x0 (fun r => .leaf (r.lift j86x0 je86x0 ZI ZI c)) .any c v := by kernel_rfl
def S86x0 (c : ZD cs86x0) (v : ZD vs86x0) : RQ vs86x0 wv86x0 := Z86x0 (fun r => r) (fun _ _ => .bad) c v
theorem s86x0 (c : ZD cs86x0) (v : ZD vs86x0) : detQ (roundQ Try.prog E0 G86 0 26 [] ps86x0 wy86x0 b86x0 [] (j86x0 c v)) = (S86x0 c v).lift j86x0 je86x0 ZI ZI c := by rw [z86x0]; unfold S86x0 Z86x0; simp only [detQ, lift_bad, dqs]
def L86x0 (c : ZD cs86x0) (v : ZD vs86x0) : LQ wv86x0 := iterQ (S86x0 c) big v
theorem lo86 : loopsOf (c86) = [.loop b86x0] := by kernel_rfl
noncomputable def l86 : List Loop := [.known (loopZ 0 [] ps86x0 fun x => spreadV wy86x0 je86x0 ZI ZI [] true (sp86x0 x).1 (L86x0 (sp86x0 x).1 (sp86x0 x).2) wy86x0.exits)]
def Q86 {α : Type} (l : Option (r86).den → α) (an : α → α → α) (x : (a86).den) : α := bif (!(decide (((x.1.n : Nat) : Int) = ((x.2.1.n : Nat) : Int)))) then l (some (false, ())) else onExit (L86x0 (x.1, (x.2.1, (((x.1.n : Nat) : Int), ()))) ((0 : Int), ())) 0 (fun u0 => l (some (true, ()))) (onRet (L86x0 (x.1, (x.2.1, (((x.1.n : Nat) : Int), ()))) ((0 : Int), ())) (fun u1 => l (some u1)) (l none))
theorem q86 (x : (a86).den) : runFn Try.prog E0 G86 Try.f86 l86 a86 r86 x = Q86 .leaf .any x := by kernel_rfl
def M86 (x : (a86).den) : Option (r86).den := Q86 (fun r => r) (fun _ _ => none) x
theorem m86 (x : (a86).den) : (runFn Try.prog E0 G86 Try.f86 l86 a86 r86 x).sure = M86 x := by rw [q86]; unfold M86 Q86; simp only [Tree.sure, sus]
def p86 (x : (a86).den) : Bool := (M86 x).isSome
def v86 (x : (a86).den) : (r86).den := (M86 x).getD (r86).dflt
def k86 : Con := ⟨a86, r86, p86, v86⟩
theorem h86 : Holds Try.prog 86 k86 := holds_of_M' (E := E0) follows_ok g86 eqTy_sound keyTy_sound at86 bd86 (by kernel_rfl) m86 fun G' hlo hF hE => LsOK_kn (by rw [lo86]; exact .cons (loopV_ok hE hF hlo (LsOK_kn (by rw [lo86x0]; exact .nil)) (by kernel_rfl) (by kernel_rfl) sp86x0 (fun _ => rfl) (fun _ _ => rfl) (s86x0) big) (.nil))
noncomputable def c85 : Code := Try.f85.body.getD .skip
theorem at85 : Try.prog.funcs[85]? = some Try.f85 := by kernel_rfl
theorem bd85 : Try.f85.body = some c85 := by kernel_rfl
theorem cl85 : Callable Try.prog 85 := callable_of at85 (by kernel_rfl) (by kernel_rfl)
abbrev T92 : Ty := (.fn T91 T3)
abbrev T93 : Ty := (.cons T92 .nil)
abbrev T94 : Ty := (.cons T42 T93)
abbrev a85 : Ty := T94
abbrev r85 : Ty := T43
noncomputable def G85 : Ctx := Ctx.of []
theorem g85 : Sound Try.prog (G85) := sound_of (fun _ h => by cases h)
noncomputable def b85x0 : Code := loopBody ((loopsOf (c85))[0]?)
noncomputable def b85x0x0 : Code := loopBody ((loopsOf (b85x0))[0]?)
theorem lo85x0x0 : loopsOf (b85x0x0) = [] := by kernel_rfl
abbrev cs85x0x0 : List Pat := [.slot 0 (.pc T42), .slot 1 (.pc T92), .slot 5 (.pc tI), .slot 6 (.pc T42)]
abbrev vs85x0x0 : List Pat := [.slot 7 (.pc tI)]
abbrev ps85x0x0 : List Pat := cs85x0x0 ++ vs85x0x0
def j85x0x0 : ZJ cs85x0x0 vs85x0x0 ps85x0x0 := ZA _ _
def sp85x0x0 : ZS cs85x0x0 vs85x0x0 ps85x0x0 := ZP _ _
abbrev wy85x0x0 : Ways := ⟨[(2, [.slot 0 (.pc T42), .slot 5 (.pc tI)])], [], []⟩
abbrev wv85x0x0 : Ways := ⟨[(2, [])], [], []⟩
def je85x0x0 : ZE cs85x0x0 wv85x0x0 wy85x0x0 := fun id => match id with | 2 => fun c y => (c.1, (c.2.2.1, y)) | _ => ZDf
def Z85x0x0 {α : Type} (l : RQ vs85x0x0 wv85x0x0 → α) (an : α → α → α) (c : ZD cs85x0x0) (v : ZD vs85x0x0) : α := bif (decide (v.1 < ((c.2.2.2.1.n : Nat) : Int))) then bif (decide (((0 : Int) ≤ v.1) ∧ (v.1 < ((c.2.2.2.1.n : Nat) : Int)))) then bif (decide (((0 : Int) ≤ (W (v.1 - (1 : Int)))) ∧ ((W (v.1 - (1 : Int))) < ((c.2.2.2.1.n : Nat) : Int)))) then bif (c.2.1 ((c.2.2.2.1.g (Int.toNat v.1)).1, (c.2.2.2.1.g (Int.toNat (W (v.1 - (1 : Int))))))).1 then bif (!(c.2.1 ((c.2.2.2.1.g (Int.toNat v.1)).1, (c.2.2.2.1.g (Int.toNat (W (v.1 - (1 : Int))))))).2.1) then bif (decide (((0 : Int) ≤ v.1) ∧ (v.1 < ((c.2.2.2.1.n : Nat) : Int)))) then bif (decide (((0 : Int) ≤ c.2.2.1) ∧ (c.2.2.1 < ((c.1.n : Nat) : Int)))) then l .bad else l .bad else l .bad else l (.next ((W (v.1 + (1 : Int))), ())) else l .bad else l .bad else l .bad else l (.out (.exit 2 ()))
theorem z85x0x0 (c : ZD cs85x0x0) (v : ZD vs85x0x0) : roundQ Try.prog E0 G85 0 66 [] ps85x0x0 wy85x0x0 b85x0x0 [] (j85x0x0 c v) = Z85x0x0 (fun r => .leaf (r.lift j85x0x0 je85x0x0 ZI ZI c)) .any c v := by kernel_rfl
def S85x0x0 (c : ZD cs85x0x0) (v : ZD vs85x0x0) : RQ vs85x0x0 wv85x0x0 := Z85x0x0 (fun r => r) (fun _ _ => .bad) c v
theorem s85x0x0 (c : ZD cs85x0x0) (v : ZD vs85x0x0) : detQ (roundQ Try.prog E0 G85 0 66 [] ps85x0x0 wy85x0x0 b85x0x0 [] (j85x0x0 c v)) = (S85x0x0 c v).lift j85x0x0 je85x0x0 ZI ZI c := by rw [z85x0x0]; unfold S85x0x0 Z85x0x0; simp only [detQ, lift_bad, dqs]
def L85x0x0 (c : ZD cs85x0x0) (v : ZD vs85x0x0) : LQ wv85x0x0 := iterQ (S85x0x0 c) big v
theorem lo85x0 : loopsOf (b85x0) = [.loop b85x0x0] := by kernel_rfl
abbrev cs85x0 : List Pat := [.slot 0 (.pc T42), .slot 1 (.pc T92)]
abbrev vs85x0 : List Pat := [.slot 5 (.pc tI)]
abbrev ps85x0 : List Pat := cs85x0 ++ vs85x0
def j85x0 : ZJ cs85x0 vs85x0 ps85x0 := ZA _ _
def sp85x0 : ZS cs85x0 vs85x0 ps85x0 := ZP _ _
abbrev wy85x0 : Ways := ⟨[(0, [.slot 0 (.pc T42)])], [], []⟩
abbrev wv85x0 : Ways := ⟨[(0, [])], [], []⟩
def je85x0 : ZE cs85x0 wv85x0 wy85x0 := fun id => match id with | 0 => fun c y => (c.1, y) | _ => ZDf
def Z85x0 {α : Type} (l : RQ vs85x0 wv85x0 → α) (an : α → α → α) (c : ZD cs85x0) (v : ZD vs85x0) : α := bif (decide (v.1 < ((c.1.n : Nat) : Int))) then bif (decide (((0 : Int) ≤ v.1) ∧ (v.1 < ((c.1.n : Nat) : Int)))) then bif (decide (((0 : Int) ≤ (W (v.1 - (1 : Int)))) ∧ ((W (v.1 - (1 : Int))) < ((c.1.n : Nat) : Int)))) then bif (c.2.1 ((c.1.g (Int.toNat v.1)).1, (c.1.g (Int.toNat (W (v.1 - (1 : Int))))))).1 then bif (c.2.1 ((c.1.g (Int.toNat v.1)).1, (c.1.g (Int.toNat (W (v.1 - (1 : Int))))))).2.1 then bif (decide (((0 : Int) ≤ v.1) ∧ ((v.1 ≤ ((c.1.n : Nat) : Int)) ∧ (((c.1.n : Nat) : Int) ≤ ((c.1.n : Nat) : Int))))) then onExit (L85x0x0 (c.1, (c.2.1, (v.1, ((⟨(Int.toNat (((c.1.n : Nat) : Int) - v.1)), fun i => (c.1.g (i + (Int.toNat v.1)))⟩ : Sl _), ())))) ((1 : Int), ())) 2 (fun u0 => bif (decide (((0 : Int) ≤ v.1) ∧ ((v.1 ≤ ((c.1.n : Nat) : Int)) ∧ (((c.1.n : Nat) : Int) ≤ ((c.1.n : Nat) : Int))))) then l .bad else l .bad) (l .bad) else l .bad else l (.next ((W (v.1 + (1 : Int))), ())) else l .bad else l .bad else l .bad else l (.out (.exit 0 ()))
theorem z85x0 (c : ZD cs85x0) (v : ZD vs85x0) : roundQ Try.prog E0 G85 0 66 [] ps85x0 wy85x0 b85x0 [.known (loopZ 0 [] ps85x0x0 fun x => spreadV wy85x0x0 je85x0x0 ZI ZI [] false (sp85x0x0 x).1 (L85x0x0 (sp85x0x0 x).1 (sp85x0x0 x).2) wy85x0x0.exits)] (j85x0 c v) = Z85x0 (fun r => .leaf (r.lift j85x0 je85x0 ZI ZI c)) .any c v := by kernel_rfl
def S85x0 (c : ZD cs85x0) (v : ZD vs85x0) : RQ vs85x0 wv85x0 := Z85x0 (fun r => r) (fun _ _ => .bad) c v
theorem s85x0 (c : ZD cs85x0) (v : ZD vs85x0) : detQ (roundQ Try.prog E0 G85 0 66 [] ps85x0 wy85x0 b85x0 [.known (loopZ 0 [] ps85x0x0 fun x => spreadV wy85x0x0 je85x0x0 ZI ZI [] false (sp85x0x0 x).1 (L85x0x0 (sp85x0x0 x).1 (sp85x0x0 x).2) wy85x0x0.exits)] (j85x0 c v)) = (S85x0 c v).lift j85x0 je85x0 ZI ZI c := by rw [z85x0]; unfold S85x0 Z85x0; simp only [detQ, lift_bad, dqs]
def L85x0 (c : ZD cs85x0) (v : ZD vs85x0) : LQ wv85x0 := iterQ (S85x0 c) big v
theorem lo85 : loopsOf (c85) = [.loop b85x0] := by kernel_rfl
noncomputable def l85 : List Loop := [.known (loopZ 0 [] ps85x0 fun x => spreadV wy85x0 je85x0 ZI ZI [] false (sp85x0 x).1 (L85x0 (sp85x0 x).1 (sp85x0 x).2) wy85x0.exits)]
def Q85 {α : Type} (l : Option (r85).den → α) (an : α → α → α) (x : (a85).den) : α := bif (decide (((x.1.n : Nat) : Int) < (2 : Int))) then l (some (x.1, ())) else onExit (L85x0 x ((1 : Int), ())) 0 (fun u1 => l (some (x.1, ()))) (l none)
theorem q85 (x : (a85).den) : runFn Try.prog E0 G85 Try.f85 l85 a85 r85 x = Q85 .leaf .any x := by kernel_rfl
def M85 (x : (a85).den) : Option (r85).den := Q85 (fun r => r) (fun _ _ => none) x
theorem m85 (x : (a85).den) : (runFn Try.prog E0 G85 Try.f85 l85 a85 r85 x).sure = M85 x := by rw [q85]; unfold M85 Q85; simp only [Tree.sure, sus]
def p85 (x : (a85).den) : Bool := (M85 x).isSome
def v85 (x : (a85).den) : (r85).den := (M85 x).getD (r85).dflt
def k85 : Con := ⟨a85, r85, p85, v85⟩
theorem h85 : Holds Try.prog 85 k85 := holds_of_M' (E := E0) follows_ok g85 eqTy_sound keyTy_sound at85 bd85 (by kernel_rfl) m85 fun G' hlo hF hE => LsOK_kn (by rw [lo85]; exact .cons (loopV_ok hE hF hlo (LsOK_kn (by rw [lo85x0]; exact .cons (loopV_ok hE hF hlo (LsOK_kn (by rw [lo85x0x0]; exact .nil)) (by kernel_rfl) (by kernel_rfl) sp85x0x0 (fun _ => rfl) (fun _ _ => rfl) (s85x0x0) big) (.nil))) (by kernel_rfl) (by kernel_rfl) sp85x0 (fun _ => rfl) (fun _ _ => rfl) (s85x0) big) (.nil))
noncomputable def c39 : Code := Try.f39.body.getD .skip
theorem at39 : Try.prog.funcs[39]? = some Try.f39 := by kernel_rfl
theorem bd39 : Try.f39.body = some c39 := by kernel_rfl
theorem cl39 : Callable Try.prog 39 := callable_of at39 (by kernel_rfl) (by kernel_rfl)
abbrev a39 : Ty := T88
abbrev r39 : Ty := T77
noncomputable def G39 : Ctx := Ctx.of [(63, .pure k63), (78, .pure k78), (81, .pure k81), (82, .pure k82), (83, .gen (sortD1 84 (.sl tL1) p84 v84)), (84, .gen (fun _ _ _ _ => .leaf .bad)), (85, .pure k85), (86, .pure k86)]
theorem g39 : Sound Try.prog (G39) := sound_of (List.forall_mem_cons.2 ⟨⟨cl63, h63⟩, List.forall_mem_cons.2 ⟨⟨cl78, h78⟩, List.forall_mem_cons.2 ⟨⟨cl81, h81⟩, List.forall_mem_cons.2 ⟨⟨cl82, h82⟩, List.forall_mem_cons.2 ⟨⟨cl83, sh83⟩, List.forall_mem_cons.2 ⟨⟨cl84, gbad84⟩, List.forall_mem_cons.2 ⟨⟨cl85, h85⟩, List.forall_mem_cons.2 ⟨⟨cl86, h86⟩, fun _ h => by cases h⟩⟩⟩⟩⟩⟩⟩⟩)
noncomputable def b39x0 : Code := rangeBody ((loopsOf (c39))[0]?)
noncomputable def as39x0 : Code := rangeAs ((loopsOf (c39))[0]?)
abbrev mp39x0 : List Pat := [.slot 4 (.ptr 4), .slot 5 (.ptr 5), .slot 9 (.ptr 111), .box 4 [.pc tI], .box 5 [.pc tI], .box 111 [.own 1112000 79 T30]]
theorem lo39x0 : loopsOf (b39x0) = [] := by kernel_rfl
def Z39x0 {α : Type} (l : RO mp39x0 → α) (an : α → α → α) (x : ZD mp39x0) (it : Ty.den T50) : α := cl (r82).dflt (M82 (it.1, (x.2.2.2.1.1, x.2.2.2.2.1))) (fun u0 => bif (decide (((x.2.2.2.2.2.1.1.n + 1) * 24) ≤ 140737488355328)) then l (.next ((), ((), ((), (x.2.2.2.1, (x.2.2.2.2.1, (((catSl x.2.2.2.2.2.1.1 (⟨1, fun i => List.getD [u0] i u0⟩ : Sl (Ty.den T30))), ()), ()))))))) else l .bad) (l .bad)
theorem z39x0 (x : ZD mp39x0) (it : Ty.den T50) : stepR Try.prog (E0.rw [] [83]) G39 0 500000 34 [22] as39x0 b39x0 [] [] T50 mp39x0 x it = Z39x0 .leaf .any x it := by kernel_rfl
def S39x0 (x : ZD mp39x0) (it : Ty.den T50) : RO mp39x0 := Z39x0 (fun r => r) (fun _ _ => .bad) x it
theorem s39x0 (x : ZD mp39x0) (it : Ty.den T50) : (stepR Try.prog (E0.rw [] [83]) G39 0 500000 34 [22] as39x0 b39x0 [] [] T50 mp39x0 x it).detB .bad = S39x0 x it := by rw [z39x0]; unfold S39x0 Z39x0; simp only [detB_cond, Tree.detB, detB_cl, detB_onExit, detB_onPanL]
def L39x0 (x : ZD mp39x0) (l : List (Ty.den T50)) : RO mp39x0 := runAllD S39x0 x l
theorem lo39 : loopsOf (c39) = [.rangeFunc (.tmp 21) #[22] as39x0 b39x0] := by kernel_rfl
noncomputable def l39 : List Loop := [.known (fun s0 => Tree.map (thawO 9) ((rangeD 0 [] 21 T50 mp39x0 [] [] (fun x l => L39x0 x l)) s0))]
def Q39 {α : Type} (l : Option (r39).den → α) (an : α → α → α) (x : (a39).den) : α := cl (r78).dflt (M78 (x.1, x.2)) (fun u1 => cl (r63).dflt (M63 (x.1, u1)) (fun u2 => bif (!(decide (u2.1 = (0 : Int)))) then l (some ((⟨0, fun i => ((⟨0, fun i => ((0 : Int), ())⟩ : Sl _), ())⟩ : Sl _), u2)) else cl (r81).dflt (M81 (x.1, ())) (fun u3 => onNext (L39x0 ((), ((), ((), ((x.2.1, ()), (x.2.2, (((⟨0, fun i => ((⟨0, fun i => ((0 : Int), ())⟩ : Sl _), ())⟩ : Sl _), ()), ())))))) (Sl.list u3.1)) (fun u4 => bif (sortB1 p84 v84 u4.2.2.2.2.2.1.1) then cl (r85).dflt (M85 ((sortS1 v84 u4.2.2.2.2.2.1.1), ((fun y1 => ((p86 y1), (v86 y1))), ()))) (fun u5 => l (some (u5.1, ((0 : Int), ())))) (l none) else l none) (onRetO (L39x0 ((), ((), ((), ((x.2.1, ()), (x.2.2, (((⟨0, fun i => ((⟨0, fun i => ((0 : Int), ())⟩ : Sl _), ())⟩ : Sl _), ()), ())))))) (Sl.list u3.1)) (fun u6 => l none) (l none))) (l none)) (l none)) (l none)
theorem q39 (x : (a39).den) : runFn Try.prog (E0.rw [] [83]) G39 Try.f39 l39 a39 r39 x = Q39 .leaf .any x := by kernel_rfl
def M39 (x : (a39).den) : Option (r39).den := Q39 (fun r => r) (fun _ _ => none) x
theorem m39 (x : (a39).den) : (runFn Try.prog (E0.rw [] [83]) G39 Try.f39 l39 a39 r39 x).sure = M39 x := by rw [q39]; unfold M39 Q39; simp only [Tree.sure, sus]
def p39 (x : (a39).den) : Bool := (M39 x).isSome
def v39 (x : (a39).den) : (r39).den := (M39 x).getD (r39).dflt
def k39 : Con := ⟨a39, r39, p39, v39⟩
theorem h39 : Holds Try.prog 39 k39 := holds_of_MT (E := (E0.rw [] [83])) follows_ok g39 eqTy_sound keyTy_sound at39 bd39 (by kernel_rfl) m39 fun G' hlo hF hE hT => LsOK_kn (by rw [lo39]; exact .cons (loop_thaw hT (rangeD_ok hE hF hlo at39 (by kernel_rfl) (by kernel_rfl) (by kernel_rfl) (by kernel_rfl) (by kernel_rfl) (fun G' hlo hF l hE => LsOK_nil) (fun G' hlo hF l hE => LsOK_kn (by rw [lo39x0]; exact .nil)) s39x0) 9) (.nil))
noncomputable def c44 : Code := Try.f44.body.getD .skip
theorem at44 : Try.prog.funcs[44]? = some Try.f44 := by kernel_rfl
theorem bd44 : Try.f44.body = some c44 := by kernel_rfl
theorem cl44 : Callable Try.prog 44 := callable_of at44 (by kernel_rfl) (by kernel_rfl)
abbrev T95 : Ty := (.cons T12 T20)
abbrev T96 : Ty := (.cons T12 T95)
abbrev a44 : Ty := T96
abbrev r44 : Ty := T8
noncomputable def G44 : Ctx := Ctx.of []
theorem g44 : Sound Try.prog (G44) := sound_of (fun _ h => by cases h)
theorem lo44 : loopsOf (c44) = [] := by kernel_rfl
noncomputable def l44 : List Loop := []
def Q44 {α : Type} (l : Option (r44).den → α) (an : α → α → α) (x : (a44).den) : α := l (some ((x.1.1, (x.1.2.1, (x.2.1.1, (x.2.1.2.1, x.2.2.1)))), ()))
theorem q44 (x : (a44).den) : runFn Try.prog E0 G44 Try.f44 l44 a44 r44 x = Q44 .leaf .any x := by kernel_rfl
def M44 (x : (a44).den) : Option (r44).den := Q44 (fun r => r) (fun _ _ => none) x
theorem m44 (x : (a44).den) : (runFn Try.prog E0 G44 Try.f44 l44 a44 r44 x).sure = M44 x := by rw [q44]; unfold M44 Q44; simp only [Tree.sure, sus]
def p44 (x : (a44).den) : Bool := (M44 x).isSome
def v44 (x : (a44).den) : (r44).den := (M44 x).getD (r44).dflt
def k44 : Con := ⟨a44, r44, p44, v44⟩
theorem h44 : Holds Try.prog 44 k44 := holds_of_M' (E := E0) follows_ok g44 eqTy_sound keyTy_sound at44 bd44 (by kernel_rfl) m44 fun G' hlo hF hE => LsOK_kn (by rw [lo44]; exact .nil)
noncomputable def c48 : Code := Try.f48.body.getD .skip
theorem at48 : Try.prog.funcs[48]? = some Try.f48 := by kernel_rfl
theorem bd48 : Try.f48.body = some c48 := by kernel_rfl
theorem cl48 : Callable Try.prog 48 := callable_of at48 (by kernel_rfl) (by kernel_rfl)
abbrev a48 : Ty := T1
abbrev r48 : Ty := T20
noncomputable def G48 : Ctx := Ctx.of []
theorem g48 : Sound Try.prog (G48) := sound_of (fun _ h => by cases h)
theorem lo48 : loopsOf (c48) = [] := by kernel_rfl
noncomputable def l48 : List Loop := []
def Q48 {α : Type} (l : Option (r48).den → α) (an : α → α → α) (x : (a48).den) : α := l (some (x, ()))
theorem q48 (x : (a48).den) : runFn Try.prog E0 G48 Try.f48 l48 a48 r48 x = Q48 .leaf .any x := by kernel_rfl
def M48 (x : (a48).den) : Option (r48).den := Q48 (fun r => r) (fun _ _ => none) x
theorem m48 (x : (a48).den) : (runFn Try.prog E0 G48 Try.f48 l48 a48 r48 x).sure = M48 x := by rw [q48]; unfold M48 Q48; simp only [Tree.sure, sus]
def p48 (x : (a48).den) : Bool := (M48 x).isSome
def v48 (x : (a48).den) : (r48).den := (M48 x).getD (r48).dflt
def k48 : Con := ⟨a48, r48, p48, v48⟩
theorem h48 : Holds Try.prog 48 k48 := holds_of_M' (E := E0) follows_ok g48 eqTy_sound keyTy_sound at48 bd48 (by kernel_rfl) m48 fun G' hlo hF hE => LsOK_kn (by rw [lo48]; exact .nil)
noncomputable def c62 : Code := Try.f62.body.getD .skip
theorem at62 : Try.prog.funcs[62]? = some Try.f62 := by kernel_rfl
theorem bd62 : Try.f62.body = some c62 := by kernel_rfl
theorem cl62 : Callable Try.prog 62 := callable_of at62 (by kernel_rfl) (by kernel_rfl)
abbrev a62 : Ty := .nil
abbrev r62 : Ty := T19
noncomputable def G62 : Ctx := Ctx.of [(44, .pure k44), (48, .pure k48)]
theorem g62 : Sound Try.prog (G62) := sound_of (List.forall_mem_cons.2 ⟨⟨cl44, h44⟩, List.forall_mem_cons.2 ⟨⟨cl48, h48⟩, fun _ h => by cases h⟩⟩)
theorem lo62 : loopsOf (c62) = [] := by kernel_rfl
noncomputable def l62 : List Loop := []
def Q62 {α : Type} (l : Option (r62).den → α) (an : α → α → α) (x : (a62).den) : α := cl (r48).dflt (M48 ((8 : Int), ((9 : Int), ()))) (fun u0 => cl (r48).dflt (M48 ((50 : Int), ((50 : Int), ()))) (fun u1 => cl (r48).dflt (M48 ((74000 : Int), ((74200 : Int), ()))) (fun u2 => cl (r44).dflt (M44 (u0.1, (u1.1, (u2.1, ())))) (fun u3 => cl (r48).dflt (M48 ((30 : Int), ((30 : Int), ()))) (fun u4 => cl (r48).dflt (M48 ((52 : Int), ((54 : Int), ()))) (fun u5 => cl (r48).dflt (M48 ((75000 : Int), ((75100 : Int), ()))) (fun u6 => cl (r44).dflt (M44 (u4.1, (u5.1, (u6.1, ())))) (fun u7 => cl (r48).dflt (M48 ((20 : Int), ((22 : Int), ()))) (fun u8 => cl (r48).dflt (M48 ((50 : Int), ((52 : Int), ()))) (fun u9 => cl (r48).dflt (M48 ((74100 : Int), ((74300 : Int), ()))) (fun u10 => cl (r44).dflt (M44 (u8.1, (u9.1, (u10.1, ())))) (fun u11 => cl (r48).dflt (M48 ((38 : Int), ((40 : Int), ()))) (fun u12 => cl (r48).dflt (M48 ((54 : Int), ((56 : Int), ()))) (fun u13 => cl (r48).dflt (M48 ((74900 : Int), ((75000 : Int), ()))) (fun u14 => cl (r44).dflt (M44 (u12.1, (u13.1, (u14.1, ())))) (fun u15 => cl (r48).dflt (M48 ((31 : Int), ((33 : Int), ()))) (fun u16 => cl (r48).dflt (M48 ((52 : Int), ((53 : Int), ()))) (fun u17 => cl (r48).dflt (M48 ((74200 : Int), ((74900 : Int), ()))) (fun u18 => cl (r44).dflt (M44 (u16.1, (u17.1, (u18.1, ())))) (fun u19 => l (some (((⟨3, fun i => List.getD [((0 : Int), ((⟨2, fun i => List.getD [u3.1, u7.1] i u3.1⟩ : Sl _), ())), ((6 : Int), ((⟨2, fun i => List.getD [u11.1, u15.1] i u11.1⟩ : Sl _), ())), ((12 : Int), ((⟨1, fun i => List.getD [u19.1] i u19.1⟩ : Sl _), ()))] i ((0 : Int), ((⟨2, fun i => List.getD [u3.1, u7.1] i u3.1⟩ : Sl _), ()))⟩ : Sl _), ((2 : Int), ((50 : Int), ((0 : Int), ((1 : Int), ()))))), ()))) (l none)) (l none)) (l none)) (l none)) (l none)) (l none)) (l none)) (l none)) (l none)) (l none)) (l none)) (l none)) (l none)) (l none)) (l none)) (l none)) (l none)) (l none)) (l none)) (l none)
theorem q62 (x : (a62).den) : runFn Try.prog E0 G62 Try.f62 l62 a62 r62 x = Q62 .leaf .any x := by kernel_rfl
def M62 (x : (a62).den) : Option (r62).den := Q62 (fun r => r) (fun _ _ => none) x
theorem m62 (x : (a62).den) : (runFn Try.prog E0 G62 Try.f62 l62 a62 r62 x).sure = M62 x := by rw [q62]; unfold M62 Q62; simp only [Tree.sure, sus]
def p62 (x : (a62).den) : Bool := (M62 x).isSome
def v62 (x : (a62).den) : (r62).den := (M62 x).getD (r62).dflt
def k62 : Con := ⟨a62, r62, p62, v62⟩
theorem h62 : Holds Try.prog 62 k62 := holds_of_M' (E := E0) follows_ok g62 eqTy_sound keyTy_sound at62 bd62 (by kernel_rfl) m62 fun G' hlo hF hE => LsOK_kn (by rw [lo62]; exact .nil)
noncomputable def c16 : Code := Try.f16.body.getD .skip
theorem at16 : Try.prog.funcs[16]? = some Try.f16 := by kernel_rfl
theorem bd16 : Try.f16.body = some c16 := by kernel_rfl
theorem cl16 : Callable Try.prog 16 := callable_of at16 (by kernel_rfl) (by kernel_rfl)
abbrev a16 : Ty := T19
abbrev r16 : Ty := T3
noncomputable def G16 : Ctx := Ctx.of []
theorem g16 : Sound Try.prog (G16) := sound_of (fun _ h => by cases h)
noncomputable def b16x0 : Code := loopBody ((loopsOf (c16))[0]?)
theorem lo16x0 : loopsOf (b16x0) = [] := by kernel_rfl
abbrev cs16x0 : List Pat := [.slot 1 (.ptr 1), .box 1 [.pc T16, .pc tI, .pc tI, .pc tI, .pc tI]]
abbrev vs16x0 : List Pat := [.slot 3 (.pc tI)]
abbrev ps16x0 : List Pat := cs16x0 ++ vs16x0
def j16x0 : ZJ cs16x0 vs16x0 ps16x0 := ZA _ _
def sp16x0 : ZS cs16x0 vs16x0 ps16x0 := ZP _ _
abbrev wy16x0 : Ways := ⟨[(0, [.slot 1 (.ptr 1), .box 1 [.pc T16, .pc tI, .pc tI, .pc tI, .pc tI]])], [.slot 2 (.pc .bool)], []⟩
abbrev wv16x0 : Ways := ⟨[(0, [])], [.slot 2 (.pc .bool)], []⟩
def je16x0 : ZE cs16x0 wv16x0 wy16x0 := fun id => match id with | 0 => fun c y => (c.1, (c.2.1, y)) | _ => ZDf
def Z16x0 {α : Type} (l : RQ vs16x0 wv16x0 → α) (an : α → α → α) (c : ZD cs16x0) (v : ZD vs16x0) : α := bif (decide (v.1 < ((c.2.1.1.n : Nat) : Int))) then bif (decide (v.1 < (7 : Int))) then bif (decide (((0 : Int) ≤ v.1) ∧ (v.1 < ((c.2.1.1.n : Nat) : Int)))) then bif (decide ((5 : Int) < (((c.2.1.1.g (Int.toNat v.1)).2.1.n : Nat) : Int))) then l (.out (.ret (false, ()))) else l (.next ((W (v.1 + (1 : Int))), ())) else l .bad else l (.out (.exit 0 ())) else l (.out (.exit 0 ()))
theorem z16x0 (c : ZD cs16x0) (v : ZD vs16x0) : roundQ Try.prog E0 G16 0 27 [] ps16x0 wy16x0 b16x0 [] (j16x0 c v) = Z16x0 (fun r => .leaf (r.lift j16x0 je16x0 ZI ZI c)) .any c v := by kernel_rfl
def S16x0 (c : ZD cs16x0) (v : ZD vs16x0) : RQ vs16x0 wv16x0 := Z16x0 (fun r => r) (fun _ _ => .bad) c v
theorem s16x0 (c : ZD cs16x0) (v : ZD vs16x0) : detQ (roundQ Try.prog E0 G16 0 27 [] ps16x0 wy16x0 b16x0 [] (j16x0 c v)) = (S16x0 c v).lift j16x0 je16x0 ZI ZI c := by rw [z16x0]; unfold S16x0 Z16x0; simp only [detQ, lift_bad, dqs]
def L16x0 (c : ZD cs16x0) (v : ZD vs16x0) : LQ wv16x0 := iterQ (S16x0 c) big v
theorem lo16 : loopsOf (c16) = [.loop b16x0] := by kernel_rfl
noncomputable def l16 : List Loop := [.known (loopZ 0 [] ps16x0 fun x => spreadV wy16x0 je16x0 ZI ZI [] true (sp16x0 x).1 (L16x0 (sp16x0 x).1 (sp16x0 x).2) wy16x0.exits)]
def Q16 {α : Type} (l : Option (r16).den → α) (an : α → α → α) (x : (a16).den) : α := onExit (L16x0 ((), (x.1, ())) ((0 : Int), ())) 0 (fun u0 => l (some ((decide (((x.1.1.n : Nat) : Int) ≤ (6 : Int))), ()))) (onRet (L16x0 ((), (x.1, ())) ((0 : Int), ())) (fun u1 => l (some u1)) (l none))
theorem q16 (x : (a16).den) : runFn Try.prog E0 G16 Try.f16 l16 a16 r16 x = Q16 .leaf .any x := by kernel_rfl
def M16 (x : (a16).den) : Option (r16).den := Q16 (fun r => r) (fun _ _ => none) x
theorem m16 (x : (a16).den) : (runFn Try.prog E0 G16 Try.f16 l16 a16 r16 x).sure = M16 x := by rw [q16]; unfold M16 Q16; simp only [Tree.sure, sus]
def p16 (x : (a16).den) : Bool := (M16 x).isSome
def v16 (x : (a16).den) : (r16).den := (M16 x).getD (r16).dflt
def k16 : Con := ⟨a16, r16, p16, v16⟩
theorem h16 : Holds Try.prog 16 k16 := holds_of_M' (E := E0) follows_ok g16 eqTy_sound keyTy_sound at16 bd16 (by kernel_rfl) m16 fun G' hlo hF hE => LsOK_kn (by rw [lo16]; exact .cons (loopV_ok hE hF hlo (LsOK_kn (by rw [lo16x0]; exact .nil)) (by kernel_rfl) (by kernel_rfl) sp16x0 (fun _ => rfl) (fun _ _ => rfl) (s16x0) big) (.nil))
noncomputable def c68 : Code := Try.f68.body.getD .skip
theorem at68 : Try.prog.funcs[68]? = some Try.f68 := by kernel_rfl
theorem bd68 : Try.f68.body = some c68 := by kernel_rfl
theorem cl68 : Callable Try.prog 68 := callable_of at68 (by kernel_rfl) (by kernel_rfl)
abbrev a68 : Ty := T2
abbrev r68 : Ty := T3
noncomputable def G68 : Ctx := Ctx.of []
theorem g68 : Sound Try.prog (G68) := sound_of (fun _ h => by cases h)
theorem lo68 : loopsOf (c68) = [] := by kernel_rfl
noncomputable def l68 : List Loop := []
def Q68 {α : Type} (l : Option (r68).den → α) (an : α → α → α) (x : (a68).den) : α := bif (decide (x.2.1 ≤ x.1)) then l (some ((decide (x.1 ≤ x.2.2.1)), ())) else l (some (false, ()))
theorem q68 (x : (a68).den) : runFn Try.prog E0 G68 Try.f68 l68 a68 r68 x = Q68 .leaf .any x := by kernel_rfl
def M68 (x : (a68).den) : Option (r68).den := Q68 (fun r => r) (fun _ _ => none) x
theorem m68 (x : (a68).den) : (runFn Try.prog E0 G68 Try.f68 l68 a68 r68 x).sure = M68 x := by rw [q68]; unfold M68 Q68; simp only [Tree.sure, sus]
def p68 (x : (a68).den) : Bool := (M68 x).isSome
def v68 (x : (a68).den) : (r68).den := (M68 x).getD (r68).dflt
def k68 : Con := ⟨a68, r68, p68, v68⟩
theorem h68 : Holds Try.prog 68 k68 := holds_of_M' (E := E0) follows_ok g68 eqTy_sound keyTy_sound at68 bd68 (by kernel_rfl) m68 fun G' hlo hF hE => LsOK_kn (by rw [lo68]; exact .nil)
noncomputable def c69 : Code := Try.f69.body.getD .skip
theorem at69 : Try.prog.funcs[69]? = some Try.f69 := by kernel_rfl
theorem bd69 : Try.f69.body = some c69 := by kernel_rfl
theorem cl69 : Callable Try.prog 69 := callable_of at69 (by kernel_rfl) (by kernel_rfl)
abbrev a69 : Ty := T13
abbrev r69 : Ty := T3
noncomputable def G69 : Ctx := Ctx.of []
theorem g69 : Sound Try.prog (G69) := sound_of (fun _ h => by cases h)
theorem lo69 : loopsOf (c69) = [] := by kernel_rfl
noncomputable def l69 : List Loop := []
def Q69 {α : Type} (l : Option (r69).den → α) (an : α → α → α) (x : (a69).den) : α := bif (decide ((0 : Int) ≤ x.1.1)) then bif (decide (x.1.1 ≤ x.1.2.1)) then l (some ((decide (x.1.2.1 ≤ x.2.1)), ())) else l (some (false, ())) else l (some (false, ()))
theorem q69 (x : (a69).den) : runFn Try.prog E0 G69 Try.f69 l69 a69 r69 x = Q69 .leaf .any x := by kernel_rfl
def M69 (x : (a69).den) : Option (r69).den := Q69 (fun r => r) (fun _ _ => none) x
theorem m69 (x : (a69).den) : (runFn Try.prog E0 G69 Try.f69 l69 a69 r69 x).sure = M69 x := by rw [q69]; unfold M69 Q69; simp only [Tree.sure, sus]
def p69 (x : (a69).den) : Bool := (M69 x).isSome
def v69 (x : (a69).den) : (r69).den := (M69 x).getD (r69).dflt
def k69 : Con := ⟨a69, r69, p69, v69⟩
theorem h69 : Holds Try.prog 69 k69 := holds_of_M' (E := E0) follows_ok g69 eqTy_sound keyTy_sound at69 bd69 (by kernel_rfl) m69 fun G' hlo hF hE => LsOK_kn (by rw [lo69]; exact .nil)
noncomputable def c21 : Code := Try.f21.body.getD .skip
theorem at21 : Try.prog.funcs[21]? = some Try.f21 := by kernel_rfl
theorem bd21 : Try.f21.body = some c21 := by kernel_rfl
theorem cl21 : Callable Try.prog 21 := callable_of at21 (by kernel_rfl) (by kernel_rfl)
abbrev a21 : Ty := T19
abbrev r21 : Ty := T3
noncomputable def G21 : Ctx := Ctx.of [(68, .pure k68), (69, .pure k69)]
theorem g21 : Sound Try.prog (G21) := sound_of (List.forall_mem_cons.2 ⟨⟨cl68, h68⟩, List.forall_mem_cons.2 ⟨⟨cl69, h69⟩, fun _ h => by cases h⟩⟩)
noncomputable def b21x0 : Code := loopBody ((loopsOf (c21))[0]?)
noncomputable def b21x0x0 : Code := loopBody ((loopsOf (b21x0))[0]?)
theorem lo21x0x0 : loopsOf (b21x0x0) = [] := by kernel_rfl
abbrev cs21x0x0 : List Pat := [.slot 1 (.ptr 1), .slot 3 (.pc tI), .slot 4 (.ptr 103), .box 1 [.pc T16, .pc tI, .pc tI, .pc tI, .pc tI], .box 103 [.pc tI, .pc (.sl T6)]]
abbrev vs21x0x0 : List Pat := [.slot 5 (.pc tI)]
abbrev ps21x0x0 : List Pat := cs21x0x0 ++ vs21x0x0
def j21x0x0 : ZJ cs21x0x0 vs21x0x0 ps21x0x0 := ZA _ _
def sp21x0x0 : ZS cs21x0x0 vs21x0x0 ps21x0x0 := ZP _ _
abbrev wy21x0x0 : Ways := ⟨[(2, [.slot 1 (.ptr 1), .slot 3 (.pc tI), .box 1 [.pc T16, .pc tI, .pc tI, .pc tI, .pc tI]])], [.slot 2 (.pc .bool)], []⟩
abbrev wv21x0x0 : Ways := ⟨[(2, [])], [.slot 2 (.pc .bool)], []⟩
def je21x0x0 : ZE cs21x0x0 wv21x0x0 wy21x0x0 := fun id => match id with | 2 => fun c y => (c.1, (c.2.1, (c.2.2.2.1, y))) | _ => ZDf
def Z21x0x0 {α : Type} (l : RQ vs21x0x0 wv21x0x0 → α) (an : α → α → α) (c : ZD cs21x0x0) (v : ZD vs21x0x0) : α := bif (decide (v.1 < ((c.2.2.2.2.1.2.1.n : Nat) : Int))) then bif (decide (((0 : Int) ≤ v.1) ∧ (v.1 < ((c.2.2.2.2.1.2.1.n : Nat) : Int)))) then cl (r69).dflt (M69 (((c.2.2.2.2.1.2.1.g (Int.toNat v.1)).1, ((c.2.2.2.2.1.2.1.g (Int.toNat v.1)).2.1, ())), ((100 : Int), ()))) (fun u0 => bif (!u0.1) then l (.out (.ret (false, ()))) else cl (r69).dflt (M69 (((c.2.2.2.2.1.2.1.g (Int.toNat v.1)).2.2.1, ((c.2.2.2.2.1.2.1.g (Int.toNat v.1)).2.2.2.1, ())), ((100 : Int), ()))) (fun u1 => bif (!u1.1) then l (.out (.ret (false, ()))) else cl (r69).dflt (M69 ((c.2.2.2.2.1.2.1.g (Int.toNat v.1)).2.2.2.2, ((99999 : Int), ()))) (fun u2 => bif (!u2.1) then l (.out (.ret (false, ()))) else l (.next ((W (v.1 + (1 : Int))), ()))) (l .bad)) (l .bad)) (l .bad) else l .bad else l (.out (.exit 2 ()))
theorem z21x0x0 (c : ZD cs21x0x0) (v : ZD vs21x0x0) : roundQ Try.prog E0 G21 0 97 [] ps21x0x0 wy21x0x0 b21x0x0 [] (j21x0x0 c v) = Z21x0x0 (fun r => .leaf (r.lift j21x0x0 je21x0x0 ZI ZI c)) .any c v := by kernel_rfl
def S21x0x0 (c : ZD cs21x0x0) (v : ZD vs21x0x0) : RQ vs21x0x0 wv21x0x0 := Z21x0x0 (fun r => r) (fun _ _ => .bad) c v
theorem s21x0x0 (c : ZD cs21x0x0) (v : ZD vs21x0x0) : detQ (roundQ Try.prog E0 G21 0 97 [] ps21x0x0 wy21x0x0 b21x0x0 [] (j21x0x0 c v)) = (S21x0x0 c v).lift j21x0x0 je21x0x0 ZI ZI c := by rw [z21x0x0]; unfold S21x0x0 Z21x0x0; simp only [detQ, lift_bad, dqs]
def L21x0x0 (c : ZD cs21x0x0) (v : ZD vs21x0x0) : LQ wv21x0x0 := iterQ (S21x0x0 c) big v
theorem lo21x0 : loopsOf (b21x0) = [.loop b21x0x0] := by kernel_rfl
abbrev cs21x0 : List Pat := [.slot 1 (.ptr 1), .box 1 [.pc T16, .pc tI, .pc tI, .pc tI, .pc tI]]
abbrev vs21x0 : List Pat := [.slot 3 (.pc tI)]
abbrev ps21x0 : List Pat := cs21x0 ++ vs21x0
def j21x0 : ZJ cs21x0 vs21x0 ps21x0 := ZA _ _
def sp21x0 : ZS cs21x0 vs21x0 ps21x0 := ZP _ _
abbrev wy21x0 : Ways := ⟨[(0, [.slot 1 (.ptr 1), .box 1 [.pc T16, .pc tI, .pc tI, .pc tI, .pc tI]])], [.slot 2 (.pc .bool)], []⟩
abbrev wv21x0 : Ways := ⟨[(0, [])], [.slot 2 (.pc .bool)], []⟩
def je21x0 : ZE cs21x0 wv21x0 wy21x0 := fun id => match id with | 0 => fun c y => (c.1, (c.2.1, y)) | _ => ZDf
def Z21x0 {α : Type} (l : RQ vs21x0 wv21x0 → α) (an : α → α → α) (c : ZD cs21x0) (v : ZD vs21x0) : α := bif (decide (v.1 < ((c.2.1.1.n : Nat) : Int))) then bif (decide (((0 : Int) ≤ v.1) ∧ (v.1 < ((c.2.1.1.n : Nat) : Int)))) then cl (r68).dflt (M68 ((c.2.1.1.g (Int.toNat v.1)).1, ((0 : Int), ((200 : Int), ())))) (fun u3 => bif (!u3.1) then l (.out (.ret (false, ()))) else bif (decide ((0 : Int) < v.1)) then bif (decide (((0 : Int) ≤ (W (v.1 - (1 : Int)))) ∧ ((W (v.1 - (1 : Int))) < ((c.2.1.1.n : Nat) : Int)))) then bif (decide ((c.2.1.1.g (Int.toNat v.1)).1 ≤ (c.2.1.1.g (Int.toNat (W (v.1 - (1 : Int))))).1)) then l (.out (.ret (false, ()))) else bif (decide ((3 : Int) < (((c.2.1.1.g (Int.toNat v.1)).2.1.n : Nat) : Int))) then l (.out (.ret (false, ()))) else onExit (L21x0x0 ((), (v.1, ((), (c.2.1, ((c.2.1.1.g (Int.toNat v.1)), ()))))) ((0 : Int), ())) 2 (fun u4 => l (.next ((W (v.1 + (1 : Int))), ()))) (onRet (L21x0x0 ((), (v.1, ((), (c.2.1, ((c.2.1.1.g (Int.toNat v.1)), ()))))) ((0 : Int), ())) (fun u5 => l (.out (.ret u5))) (l .bad)) else l .bad else bif (decide ((3 : Int) < (((c.2.1.1.g (Int.toNat v.1)).2.1.n : Nat) : Int))) then l (.out (.ret (false, ()))) else onExit (L21x0x0 ((), (v.1, ((), (c.2.1, ((c.2.1.1.g (Int.toNat v.1)), ()))))) ((0 : Int), ())) 2 (fun u6 => l (.next ((W (v.1 + (1 : Int))), ()))) (onRet (L21x0x0 ((), (v.1, ((), (c.2.1, ((c.2.1.1.g (Int.toNat v.1)), ()))))) ((0 : Int), ())) (fun u7 => l (.out (.ret u7))) (l .bad))) (l .bad) else l .bad else l (.out (.exit 0 ()))
theorem z21x0 (c : ZD cs21x0) (v : ZD vs21x0) : roundQ Try.prog E0 G21 0 97 [] ps21x0 wy21x0 b21x0 [.known (loopZ 0 [] ps21x0x0 fun x => spreadV wy21x0x0 je21x0x0 ZI ZI [] true (sp21x0x0 x).1 (L21x0x0 (sp21x0x0 x).1 (sp21x0x0 x).2) wy21x0x0.exits)] (j21x0 c v) = Z21x0 (fun r => .leaf (r.lift j21x0 je21x0 ZI ZI c)) .any c v := by kernel_rfl
def S21x0 (c : ZD cs21x0) (v : ZD vs21x0) : RQ vs21x0 wv21x0 := Z21x0 (fun r => r) (fun _ _ => .bad) c v
theorem s21x0 (c : ZD cs21x0) (v : ZD vs21x0) : detQ (roundQ Try.prog E0 G21 0 97 [] ps21x0 wy21x0 b21x0 [.known (loopZ 0 [] ps21x0x0 fun x => spreadV wy21x0x0 je21x0x0 ZI ZI [] true (sp21x0x0 x).1 (L21x0x0 (sp21x0x0 x).1 (sp21x0x0 x).2) wy21x0x0.exits)] (j21x0 c v)) = (S21x0 c v).lift j21x0 je21x0 ZI ZI c := by rw [z21x0]; unfold S21x0 Z21x0; simp only [detQ, lift_bad, dqs]
def L21x0 (c : ZD cs21x0) (v : ZD vs21x0) : LQ wv21x0 := iterQ (S21x0 c) big v
theorem lo21 : loopsOf (c21) = [.loop b21x0] := by kernel_rfl
noncomputable def l21 : List Loop := [.known (loopZ 0 [] ps21x0 fun x => spreadV wy21x0 je21x0 ZI ZI [] true (sp21x0 x).1 (L21x0 (sp21x0 x).1 (sp21x0 x).2) wy21x0.exits)]
def Q21 {α : Type} (l : Option (r21).den → α) (an : α → α → α) (x : (a21).den) : α := onExit (L21x0 ((), (x.1, ())) ((0 : Int), ())) 0 (fun u8 => cl (r68).dflt (M68 (((x.1.1.n : Nat) : Int), ((1 : Int), ((4 : Int), ())))) (fun u9 => bif u9.1 then cl (r68).dflt (M68 (x.1.2.1, ((0 : Int), ((50 : Int), ())))) (fun u10 => bif u10.1 then cl (r68).dflt (M68 (x.1.2.2.1, ((0 : Int), ((1000 : Int), ())))) (fun u11 => bif u11.1 then cl (r68).dflt (M68 (x.1.2.2.2.1, ((0 : Int), ((12 : Int), ())))) (fun u12 => bif u12.1 then cl (r68).dflt (M68 (x.1.2.2.2.2.1, ((0 : Int), ((12 : Int), ())))) (fun u13 => l (some u13)) (l none) else l (some (false, ()))) (l none) else l (some (false, ()))) (l none) else l (some (false, ()))) (l none) else l (some (false, ()))) (l none)) (onRet (L21x0 ((), (x.1, ())) ((0 : Int), ())) (fun u14 => l (some u14)) (l none))
theorem q21 (x : (a21).den) : runFn Try.prog E0 G21 Try.f21 l21 a21 r21 x = Q21 .leaf .any x := by kernel_rfl
def M21 (x : (a21).den) : Option (r21).den := Q21 (fun r => r) (fun _ _ => none) x
theorem m21 (x : (a21).den) : (runFn Try.prog E0 G21 Try.f21 l21 a21 r21 x).sure = M21 x := by rw [q21]; unfold M21 Q21; simp only [Tree.sure, sus]
def p21 (x : (a21).den) : Bool := (M21 x).isSome
def v21 (x : (a21).den) : (r21).den := (M21 x).getD (r21).dflt
def k21 : Con := ⟨a21, r21, p21, v21⟩
theorem h21 : Holds Try.prog 21 k21 := holds_of_M' (E := E0) follows_ok g21 eqTy_sound keyTy_sound at21 bd21 (by kernel_rfl) m21 fun G' hlo hF hE => LsOK_kn (by rw [lo21]; exact .cons (loopV_ok hE hF hlo (LsOK_kn (by rw [lo21x0]; exact .cons (loopV_ok hE hF hlo (LsOK_kn (by rw [lo21x0x0]; exact .nil)) (by kernel_rfl) (by kernel_rfl) sp21x0x0 (fun _ => rfl) (fun _ _ => rfl) (s21x0x0) big) (.nil))) (by kernel_rfl) (by kernel_rfl) sp21x0 (fun _ => rfl) (fun _ _ => rfl) (s21x0) big) (.nil))
noncomputable def c56 : Code := Try.f56.body.getD .skip
theorem at56 : Try.prog.funcs[56]? = some Try.f56 := by kernel_rfl
theorem bd56 : Try.f56.body = some c56 := by kernel_rfl
theorem cl56 : Callable Try.prog 56 := callable_of at56 (by kernel_rfl) (by kernel_rfl)
abbrev a56 : Ty := T43
abbrev r56 : Ty := T0
noncomputable def G56 : Ctx := Ctx.of []
theorem g56 : Sound Try.prog (G56) := sound_of (fun _ h => by cases h)
noncomputable def b56x0 : Code := loopBody ((loopsOf (c56))[0]?)
noncomputable def b56x0x0 : Code := loopBody ((loopsOf (b56x0))[0]?)
theorem lo56x0x0 : loopsOf (b56x0x0) = [] := by kernel_rfl
abbrev cs56x0x0 : List Pat := [.slot 0 (.pc T42), .slot 4 (.pc tI)]
abbrev vs56x0x0 : List Pat := [.slot 3 (.pc tI), .slot 5 (.pc tI)]
abbrev ps56x0x0 : List Pat := cs56x0x0 ++ vs56x0x0
def j56x0x0 : ZJ cs56x0x0 vs56x0x0 ps56x0x0 := ZA _ _
def sp56x0x0 : ZS cs56x0x0 vs56x0x0 ps56x0x0 := ZP _ _
abbrev wy56x0x0 : Ways := ⟨[(2, [.slot 0 (.pc T42), .slot 4 (.pc tI), .slot 3 (.pc tI)])], [], []⟩
abbrev wv56x0x0 : Ways := ⟨[(2, [.slot 3 (.pc tI)])], [], []⟩
def je56x0x0 : ZE cs56x0x0 wv56x0x0 wy56x0x0 := fun id => match id with | 2 => fun c y => (c.1, (c.2.1, y)) | _ => ZDf
def Z56x0x0 {α : Type} (l : RQ vs56x0x0 wv56x0x0 → α) (an : α → α → α) (c : ZD cs56x0x0) (v : ZD vs56x0x0) : α := bif (decide (((0 : Int) ≤ c.2.1) ∧ (c.2.1 < ((c.1.n : Nat) : Int)))) then bif (decide (v.2.1 < (((c.1.g (Int.toNat c.2.1)).1.n : Nat) : Int))) then bif (decide (((0 : Int) ≤ c.2.1) ∧ (c.2.1 < ((c.1.n : Nat) : Int)))) then bif (decide (((0 : Int) ≤ v.2.1) ∧ (v.2.1 < (((c.1.g (Int.toNat c.2.1)).1.n : Nat) : Int)))) then bif (decide (((c.1.g (Int.toNat c.2.1)).1.g (Int.toNat v.2.1)).1 = (-1 : Int))) then l (.next ((W (v.1 + (1 : Int))), ((W (v.2.1 + (1 : Int))), ()))) else l (.next (v.1, ((W (v.2.1 + (1 : Int))), ()))) else l .bad else l .bad else l (.out (.exit 2 (v.1, ()))) else l .bad
theorem z56x0x0 (c : ZD cs56x0x0) (v : ZD vs56x0x0) : roundQ Try.prog E0 G56 0 32 [] ps56x0x0 wy56x0x0 b56x0x0 [] (j56x0x0 c v) = Z56x0x0 (fun r => .leaf (r.lift j56x0x0 je56x0x0 ZI ZI c)) .any c v := by kernel_rfl
def S56x0x0 (c : ZD cs56x0x0) (v : ZD vs56x0x0) : RQ vs56x0x0 wv56x0x0 := Z56x0x0 (fun r => r) (fun _ _ => .bad) c v
theorem s56x0x0 (c : ZD cs56x0x0) (v : ZD vs56x0x0) : detQ (roundQ Try.prog E0 G56 0 32 [] ps56x0x0 wy56x0x0 b56x0x0 [] (j56x0x0 c v)) = (S56x0x0 c v).lift j56x0x0 je56x0x0 ZI ZI c := by rw [z56x0x0]; unfold S56x0x0 Z56x0x0; simp only [detQ, lift_bad, dqs]
def L56x0x0 (c : ZD cs56x0x0) (v : ZD vs56x0x0) : LQ wv56x0x0 := iterQ (S56x0x0 c) big v
theorem lo56x0 : loopsOf (b56x0) = [.loop b56x0x0] := by kernel_rfl
abbrev cs56x0 : List Pat := [.slot 0 (.pc T42)]
abbrev vs56x0 : List Pat := [.slot 3 (.pc tI), .slot 4 (.pc tI)]
abbrev ps56x0 : List Pat := cs56x0 ++ vs56x0
def j56x0 : ZJ cs56x0 vs56x0 ps56x0 := ZA _ _
def sp56x0 : ZS cs56x0 vs56x0 ps56x0 := ZP _ _
abbrev wy56x0 : Ways := ⟨[(0, [.slot 3 (.pc tI)])], [], []⟩
abbrev wv56x0 : Ways := ⟨[(0, [.slot 3 (.pc tI)])], [], []⟩
def je56x0 : ZE cs56x0 wv56x0 wy56x0 := fun id => match id with | 0 => fun c y => y | _ => ZDf
def Z56x0 {α : Type} (l : RQ vs56x0 wv56x0 → α) (an : α → α → α) (c : ZD cs56x0) (v : ZD vs56x0) : α := bif (decide (v.2.1 < ((c.1.n : Nat) : Int))) then onExit (L56x0x0 (c.1, v.2) (v.1, ((0 : Int), ()))) 2 (fun u0 => l (.next (u0.1, ((W (v.2.1 + (1 : Int))), ())))) (l .bad) else l (.out (.exit 0 (v.1, ())))
theorem z56x0 (c : ZD cs56x0) (v : ZD vs56x0) : roundQ Try.prog E0 G56 0 32 [] ps56x0 wy56x0 b56x0 [.known (loopZ 0 [] ps56x0x0 fun x => spreadV wy56x0x0 je56x0x0 ZI ZI [] false (sp56x0x0 x).1 (L56x0x0 (sp56x0x0 x).1 (sp56x0x0 x).2) wy56x0x0.exits)] (j56x0 c v) = Z56x0 (fun r => .leaf (r.lift j56x0 je56x0 ZI ZI c)) .any c v := by kernel_rfl
def S56x0 (c : ZD cs56x0) (v : ZD vs56x0) : RQ vs56x0 wv56x0 := Z56x0 (fun r => r) (fun _ _ => .bad) c v
theorem s56x0 (c : ZD cs56x0) (v : ZD vs56x0) : detQ (roundQ Try.prog E0 G56 0 32 [] ps56x0 wy56x0 b56x0 [.known (loopZ 0 [] ps56x0x0 fun x => spreadV wy56x0x0 je56x0x0 ZI ZI [] false (sp56x0x0 x).1 (L56x0x0 (sp56x0x0 x).1 (sp56x0x0 x).2) wy56x0x0.exits)] (j56x0 c v)) = (S56x0 c v).lift j56x0 je56x0 ZI ZI c := by rw [z56x0]; unfold S56x0 Z56x0; simp only [detQ, lift_bad, dqs]
def L56x0 (c : ZD cs56x0) (v : ZD vs56x0) : LQ wv56x0 := iterQ (S56x0 c) big v
theorem lo56 : loopsOf (c56) = [.loop b56x0] := by kernel_rfl
noncomputable def l56 : List Loop := [.known (loopZ 0 [] ps56x0 fun x => spreadV wy56x0 je56x0 ZI ZI [] false (sp56x0 x).1 (L56x0 (sp56x0 x).1 (sp56x0 x).2) wy56x0.exits)]
def Q56 {α : Type} (l : Option (r56).den → α) (an : α → α → α) (x : (a56).den) : α := onExit (L56x0 x ((0 : Int), ((1 : Int), ()))) 0 (fun u1 => l (some u1)) (l none)
theorem q56 (x : (a56).den) : runFn Try.prog E0 G56 Try.f56 l56 a56 r56 x = Q56 .leaf .any x := by kernel_rfl
def M56 (x : (a56).den) : Option (r56).den := Q56 (fun r => r) (fun _ _ => none) x
theorem m56 (x : (a56).den) : (runFn Try.prog E0 G56 Try.f56 l56 a56 r56 x).sure = M56 x := by rw [q56]; unfold M56 Q56; simp only [Tree.sure, sus]
def p56 (x : (a56).den) : Bool := (M56 x).isSome
def v56 (x : (a56).den) : (r56).den := (M56 x).getD (r56).dflt
def k56 : Con := ⟨a56, r56, p56, v56⟩
theorem h56 : Holds Try.prog 56 k56 := holds_of_M' (E := E0) follows_ok g56 eqTy_sound keyTy_sound at56 bd56 (by kernel_rfl) m56 fun G' hlo hF hE => LsOK_kn (by rw [lo56]; exact .cons (loopV_ok hE hF hlo (LsOK_kn (by rw [lo56x0]; exact .cons (loopV_ok hE hF hlo (LsOK_kn (by rw [lo56x0x0]; exact .nil)) (by kernel_rfl) (by kernel_rfl) sp56x0x0 (fun _ => rfl) (fun _ _ => rfl) (s56x0x0) big) (.nil))) (by kernel_rfl) (by kernel_rfl) sp56x0 (fun _ => rfl) (fun _ _ => rfl) (s56x0) big) (.nil))
noncomputable def c73 : Code := Try.f73.body.getD .skip
theorem at73 : Try.prog.funcs[73]? = some Try.f73 := by kernel_rfl
theorem bd73 : Try.f73.body = some c73 := by kernel_rfl
theorem cl73 : Callable Try.prog 73 := callable_of at73 (by kernel_rfl) (by kernel_rfl)
abbrev a73 : Ty := T29
abbrev r73 : Ty := T3
noncomputable def G73 : Ctx := Ctx.of []
theorem g73 : Sound Try.prog (G73) := sound_of (fun _ h => by cases h)
noncomputable def b73x0 : Code := loopBody ((loopsOf (c73))[0]?)
theorem lo73x0 : loopsOf (b73x0) = [] := by kernel_rfl
abbrev cs73x0 : List Pat := [.slot 0 (.pc (.sl T0)), .slot 1 (.pc tI)]
abbrev vs73x0 : List Pat := [.slot 5 (.pc tI)]
abbrev ps73x0 : List Pat := cs73x0 ++ vs73x0
def j73x0 : ZJ cs73x0 vs73x0 ps73x0 := ZA _ _
def sp73x0 : ZS cs73x0 vs73x0 ps73x0 := ZP _ _
abbrev wy73x0 : Ways := ⟨[(0, [])], [.slot 4 (.pc .bool)], []⟩
abbrev wv73x0 : Ways := ⟨[(0, [])], [.slot 4 (.pc .bool)], []⟩
def je73x0 : ZE cs73x0 wv73x0 wy73x0 := fun id => match id with | 0 => fun c y => y | _ => ZDf
def Z73x0 {α : Type} (l : RQ vs73x0 wv73x0 → α) (an : α → α → α) (c : ZD cs73x0) (v : ZD vs73x0) : α := bif (decide (v.1 < ((c.1.n : Nat) : Int))) then bif (decide (((0 : Int) ≤ v.1) ∧ (v.1 < ((c.1.n : Nat) : Int)))) then bif (decide ((c.1.g (Int.toNat v.1)).1 = c.2.1)) then l (.out (.ret (true, ()))) else l (.next ((W (v.1 + (1 : Int))), ())) else l .bad else l (.out (.exit 0 ()))
theorem z73x0 (c : ZD cs73x0) (v : ZD vs73x0) : roundQ Try.prog E0 G73 0 18 [] ps73x0 wy73x0 b73x0 [] (j73x0 c v) = Z73x0 (fun r => .leaf (r.lift j73x0 je73x0 ZI ZI c)) .any c v := by kernel_rfl
def S73x0 (c : ZD cs73x0) (v : ZD vs73x0) : RQ vs73x0 wv73x0 := Z73x0 (fun r => r) (fun _ _ => .bad) c v
theorem s73x0 (c : ZD cs73x0) (v : ZD vs73x0) : detQ (roundQ Try.prog E0 G73 0 18 [] ps73x0 wy73x0 b73x0 [] (j73x0 c v)) = (S73x0 c v).lift j73x0 je73x0 ZI ZI c := by rw [z73x0]; unfold S73x0 Z73x0; simp only [detQ, lift_bad, dqs]
def L73x0 (c : ZD cs73x0) (v : ZD vs73x0) : LQ wv73x0 := iterQ (S73x0 c) big v
theorem lo73 : loopsOf (c73) = [.loop b73x0] := by kernel_rfl
noncomputable def l73 : List Loop := [.known (loopZ 0 [] ps73x0 fun x => spreadV wy73x0 je73x0 ZI ZI [] true (sp73x0 x).1 (L73x0 (sp73x0 x).1 (sp73x0 x).2) wy73x0.exits)]
def Q73 {α : Type} (l : Option (r73).den → α) (an : α → α → α) (x : (a73).den) : α := onExit (L73x0 x ((0 : Int), ())) 0 (fun u0 => l (some (false, ()))) (onRet (L73x0 x ((0 : Int), ())) (fun u1 => l (some u1)) (l none))
theorem q73 (x : (a73).den) : runFn Try.prog E0 G73 Try.f73 l73 a73 r73 x = Q73 .leaf .any x := by kernel_rfl
def M73 (x : (a73).den) : Option (r73).den := Q73 (fun r => r) (fun _ _ => none) x
theorem m73 (x : (a73).den) : (runFn Try.prog E0 G73 Try.f73 l73 a73 r73 x).sure = M73 x := by rw [q73]; unfold M73 Q73; simp only [Tree.sure, sus]
def p73 (x : (a73).den) : Bool := (M73 x).isSome
def v73 (x : (a73).den) : (r73).den := (M73 x).getD (r73).dflt
def k73 : Con := ⟨a73, r73, p73, v73⟩
theorem h73 : Holds Try.prog 73 k73 := holds_of_M' (E := E0) follows_ok g73 eqTy_sound keyTy_sound at73 bd73 (by kernel_rfl) m73 fun G' hlo hF hE => LsOK_kn (by rw [lo73]; exact .cons (loopV_ok hE hF hlo (LsOK_kn (by rw [lo73x0]; exact .nil)) (by kernel_rfl) (by kernel_rfl) sp73x0 (fun _ => rfl) (fun _ _ => rfl) (s73x0) big) (.nil))
noncomputable def c61 : Code := Try.f61.body.getD .skip
theorem at61 : Try.prog.funcs[61]? = some Try.f61 := by kernel_rfl
theorem bd61 : Try.f61.body = some c61 := by kernel_rfl
theorem cl61 : Callable Try.prog 61 := callable_of at61 (by kernel_rfl) (by kernel_rfl)
abbrev a61 : Ty := T43
abbrev r61 : Ty := T0
noncomputable def G61 : Ctx := Ctx.of [(73, .pure k73)]
theorem g61 : Sound Try.prog (G61) := sound_of (List.forall_mem_cons.2 ⟨⟨cl73, h73⟩, fun _ h => by cases h⟩)
noncomputable def b61x0 : Code := loopBody ((loopsOf (c61))[0]?)
noncomputable def b61x0x0 : Code := loopBody ((loopsOf (b61x0))[0]?)
theorem lo61x0x0 : loopsOf (b61x0x0) = [] := by kernel_rfl
abbrev cs61x0x0 : List Pat := [.slot 0 (.pc T42), .slot 4 (.pc tI)]
abbrev vs61x0x0 : List Pat := [.slot 3 (.pc tI), .slot 5 (.pc tI)]
abbrev ps61x0x0 : List Pat := cs61x0x0 ++ vs61x0x0
def j61x0x0 : ZJ cs61x0x0 vs61x0x0 ps61x0x0 := ZA _ _
def sp61x0x0 : ZS cs61x0x0 vs61x0x0 ps61x0x0 := ZP _ _
abbrev wy61x0x0 : Ways := ⟨[(2, [.slot 0 (.pc T42), .slot 4 (.pc tI), .slot 3 (.pc tI)])], [], []⟩
abbrev wv61x0x0 : Ways := ⟨[(2, [.slot 3 (.pc tI)])], [], []⟩
def je61x0x0 : ZE cs61x0x0 wv61x0x0 wy61x0x0 := fun id => match id with | 2 => fun c y => (c.1, (c.2.1, y)) | _ => ZDf
def Z61x0x0 {α : Type} (l : RQ vs61x0x0 wv61x0x0 → α) (an : α → α → α) (c : ZD cs61x0x0) (v : ZD vs61x0x0) : α := bif (decide (((0 : Int) ≤ (W (c.2.1 - (1 : Int)))) ∧ ((W (c.2.1 - (1 : Int))) < ((c.1.n : Nat) : Int)))) then bif (decide (v.2.1 < (((c.1.g (Int.toNat (W (c.2.1 - (1 : Int))))).1.n : Nat) : Int))) then bif (decide (((0 : Int) ≤ c.2.1) ∧ (c.2.1 < ((c.1.n : Nat) : Int)))) then cl (r73).dflt (M73 ((c.1.g (Int.toNat c.2.1)).1, v.2)) (fun u0 => bif (!u0.1) then l (.next ((W (v.1 + (1 : Int))), ((W (v.2.1 + (1 : Int))), ()))) else l (.next (v.1, ((W (v.2.1 + (1 : Int))), ())))) (l .bad) else l .bad else l (.out (.exit 2 (v.1, ()))) else l .bad
theorem z61x0x0 (c : ZD cs61x0x0) (v : ZD vs61x0x0) : roundQ Try.prog E0 G61 0 32 [] ps61x0x0 wy61x0x0 b61x0x0 [] (j61x0x0 c v) = Z61x0x0 (fun r => .leaf (r.lift j61x0x0 je61x0x0 ZI ZI c)) .any c v := by kernel_rfl
def S61x0x0 (c : ZD cs61x0x0) (v : ZD vs61x0x0) : RQ vs61x0x0 wv61x0x0 := Z61x0x0 (fun r => r) (fun _ _ => .bad) c v
theorem s61x0x0 (c : ZD cs61x0x0) (v : ZD vs61x0x0) : detQ (roundQ Try.prog E0 G61 0 32 [] ps61x0x0 wy61x0x0 b61x0x0 [] (j61x0x0 c v)) = (S61x0x0 c v).lift j61x0x0 je61x0x0 ZI ZI c := by rw [z61x0x0]; unfold S61x0x0 Z61x0x0; simp only [detQ, lift_bad, dqs]
def L61x0x0 (c : ZD cs61x0x0) (v : ZD vs61x0x0) : LQ wv61x0x0 := iterQ (S61x0x0 c) big v
theorem lo61x0 : loopsOf (b61x0) = [.loop b61x0x0] := by kernel_rfl
abbrev cs61x0 : List Pat := [.slot 0 (.pc T42)]
abbrev vs61x0 : List Pat := [.slot 3 (.pc tI), .slot 4 (.pc tI)]
abbrev ps61x0 : List Pat := cs61x0 ++ vs61x0
def j61x0 : ZJ cs61x0 vs61x0 ps61x0 := ZA _ _
def sp61x0 : ZS cs61x0 vs61x0 ps61x0 := ZP _ _
abbrev wy61x0 : Ways := ⟨[(0, [.slot 3 (.pc tI)])], [], []⟩
abbrev wv61x0 : Ways := ⟨[(0, [.slot 3 (.pc tI)])], [], []⟩
def je61x0 : ZE cs61x0 wv61x0 wy61x0 := fun id => match id with | 0 => fun c y => y | _ => ZDf
def Z61x0 {α : Type} (l : RQ vs61x0 wv61x0 → α) (an : α → α → α) (c : ZD cs61x0) (v : ZD vs61x0) : α := bif (decide (v.2.1 < ((c.1.n : Nat) : Int))) then onExit (L61x0x0 (c.1, v.2) (v.1, ((0 : Int), ()))) 2 (fun u1 => l (.next (u1.1, ((W (v.2.1 + (1 : Int))), ())))) (l .bad) else l (.out (.exit 0 (v.1, ())))
theorem z61x0 (c : ZD cs61x0) (v : ZD vs61x0) : roundQ Try.prog E0 G61 0 32 [] ps61x0 wy61x0 b61x0 [.known (loopZ 0 [] ps61x0x0 fun x => spreadV wy61x0x0 je61x0x0 ZI ZI [] false (sp61x0x0 x).1 (L61x0x0 (sp61x0x0 x).1 (sp61x0x0 x).2) wy61x0x0.exits)] (j61x0 c v) = Z61x0 (fun r => .leaf (r.lift j61x0 je61x0 ZI ZI c)) .any c v := by kernel_rfl
def S61x0 (c : ZD cs61x0) (v : ZD vs61x0) : RQ vs61x0 wv61x0 := Z61x0 (fun r => r) (fun _ _ => .bad) c v
theorem s61x0 (c : ZD cs61x0) (v : ZD vs61x0) : detQ (roundQ Try.prog E0 G61 0 32 [] ps61x0 wy61x0 b61x0 [.known (loopZ 0 [] ps61x0x0 fun x => spreadV wy61x0x0 je61x0x0 ZI ZI [] false (sp61x0x0 x).1 (L61x0x0 (sp61x0x0 x).1 (sp61x0x0 x).2) wy61x0x0.exits)] (j61x0 c v)) = (S61x0 c v).lift j61x0 je61x0 ZI ZI c := by rw [z61x0]; unfold S61x0 Z61x0; simp only [detQ, lift_bad, dqs]
def L61x0 (c : ZD cs61x0) (v : ZD vs61x0) : LQ wv61x0 := iterQ (S61x0 c) big v
theorem lo61 : loopsOf (c61) = [.loop b61x0] := by kernel_rfl
noncomputable def l61 : List Loop := [.known (loopZ 0 [] ps61x0 fun x => spreadV wy61x0 je61x0 ZI ZI [] false (sp61x0 x).1 (L61x0 (sp61x0 x).1 (sp61x0 x).2) wy61x0.exits)]
def Q61 {α : Type} (l : Option (r61).den → α) (an : α → α → α) (x : (a61).den) : α := onExit (L61x0 x ((0 : Int), ((1 : Int), ()))) 0 (fun u2 => l (some u2)) (l none)
theorem q61 (x : (a61).den) : runFn Try.prog E0 G61 Try.f61 l61 a61 r61 x = Q61 .leaf .any x := by kernel_rfl
def M61 (x : (a61).den) : Option (r61).den := Q61 (fun r => r) (fun _ _ => none) x
theorem m61 (x : (a61).den) : (runFn Try.prog E0 G61 Try.f61 l61 a61 r61 x).sure = M61 x := by rw [q61]; unfold M61 Q61; simp only [Tree.sure, sus]
def p61 (x : (a61).den) : Bool := (M61 x).isSome
def v61 (x : (a61).den) : (r61).den := (M61 x).getD (r61).dflt
def k61 : Con := ⟨a61, r61, p61, v61⟩
theorem h61 : Holds Try.prog 61 k61 := holds_of_M' (E := E0) follows_ok g61 eqTy_sound keyTy_sound at61 bd61 (by kernel_rfl) m61 fun G' hlo hF hE => LsOK_kn (by rw [lo61]; exact .cons (loopV_ok hE hF hlo (LsOK_kn (by rw [lo61x0]; exact .cons (loopV_ok hE hF hlo (LsOK_kn (by rw [lo61x0x0]; exact .nil)) (by kernel_rfl) (by kernel_rfl) sp61x0x0 (fun _ => rfl) (fun _ _ => rfl) (s61x0x0) big) (.nil))) (by kernel_rfl) (by kernel_rfl) sp61x0 (fun _ => rfl) (fun _ _ => rfl) (s61x0) big) (.nil))
noncomputable def c70 : Code := Try.f70.body.getD .skip
theorem at70 : Try.prog.funcs[70]? = some Try.f70 := by kernel_rfl
theorem bd70 : Try.f70.body = some c70 := by kernel_rfl
theorem cl70 : Callable Try.prog 70 := callable_of at70 (by kernel_rfl) (by kernel_rfl)
abbrev a70 : Ty := T1
abbrev r70 : Ty := T43
noncomputable def G70 : Ctx := Ctx.of [(73, .pure k73)]
theorem g70 : Sound Try.prog (G70) := sound_of (List.forall_mem_cons.2 ⟨⟨cl73, h73⟩, fun _ h => by cases h⟩)
noncomputable def b70x0 : Code := loopBody ((loopsOf (c70))[0]?)
noncomputable def b70x0x0 : Code := loopBody ((loopsOf (b70x0))[0]?)
noncomputable def b70x0x0x0 : Code := loopBody ((loopsOf (b70x0x0))[0]?)
theorem lo70x0x0x0 : loopsOf (b70x0x0x0) = [] := by kernel_rfl
abbrev cs70x0x0x0 : List Pat := [.slot 0 (.pc tI), .slot 1 (.pc tI), .slot 5 (.pc T42), .slot 6 (.pc tI), .slot 8 (.pc tI)]
abbrev vs70x0x0x0 : List Pat := [.slot 7 (.own 1000007 79 T30), .slot 9 (.pc tI)]
abbrev ps70x0x0x0 : List Pat := cs70x0x0x0 ++ vs70x0x0x0
def j70x0x0x0 : ZJ cs70x0x0x0 vs70x0x0x0 ps70x0x0x0 := ZA _ _
def sp70x0x0x0 : ZS cs70x0x0x0 vs70x0x0x0 ps70x0x0x0 := ZP _ _
abbrev wy70x0x0x0 : Ways := ⟨[(4, [.slot 0 (.pc tI), .slot 1 (.pc tI), .slot 5 (.pc T42), .slot 6 (.pc tI), .slot 8 (.pc tI), .slot 7 (.own 1000007 79 T30)])], [], []⟩
abbrev wv70x0x0x0 : Ways := ⟨[(4, [.slot 7 (.own 1000007 79 T30)])], [], []⟩
def je70x0x0x0 : ZE cs70x0x0x0 wv70x0x0x0 wy70x0x0x0 := fun id => match id with | 4 => fun c y => (c.1, (c.2.1, (c.2.2.1, (c.2.2.2.1, (c.2.2.2.2.1, y))))) | _ => ZDf
def Z70x0x0x0 {α : Type} (l : RQ vs70x0x0x0 wv70x0x0x0 → α) (an : α → α → α) (c : ZD cs70x0x0x0) (v : ZD vs70x0x0x0) : α := bif (decide (v.2.1 < c.2.1)) then bif (decide (v.2.1 < (0 : Int))) then bif (decide (((0 : Int) ≤ c.2.2.2.2.1) ∧ (c.2.2.2.2.1 < ((c.2.2.1.n : Nat) : Int)))) then bif (decide (((c.2.2.1.g (Int.toNat c.2.2.2.2.1)).1.n * 8) ≤ 140737488355328)) then bif (decide ((((c.2.2.1.g (Int.toNat c.2.2.2.2.1)).1.n + 1) * 8) ≤ 140737488355328)) then bif (decide (((v.1.n + 1) * 24) ≤ 140737488355328)) then l (.next ((catSl v.1 (⟨1, fun i => List.getD [((catSl (c.2.2.1.g (Int.toNat c.2.2.2.2.1)).1 (⟨1, fun i => List.getD [v.2] i v.2⟩ : Sl (Ty.den T0))), ())] i ((catSl (c.2.2.1.g (Int.toNat c.2.2.2.2.1)).1 (⟨1, fun i => List.getD [v.2] i v.2⟩ : Sl (Ty.den T0))), ())⟩ : Sl (Ty.den T30))), ((W (v.2.1 + (1 : Int))), ()))) else l .bad else l .bad else l .bad else l .bad else bif (decide (((0 : Int) ≤ c.2.2.2.2.1) ∧ (c.2.2.2.2.1 < ((c.2.2.1.n : Nat) : Int)))) then cl (r73).dflt (M73 ((c.2.2.1.g (Int.toNat c.2.2.2.2.1)).1, v.2)) (fun u0 => bif (!u0.1) then bif (decide (((0 : Int) ≤ c.2.2.2.2.1) ∧ (c.2.2.2.2.1 < ((c.2.2.1.n : Nat) : Int)))) then bif (decide (((c.2.2.1.g (Int.toNat c.2.2.2.2.1)).1.n * 8) ≤ 140737488355328)) then bif (decide ((((c.2.2.1.g (Int.toNat c.2.2.2.2.1)).1.n + 1) * 8) ≤ 140737488355328)) then bif (decide (((v.1.n + 1) * 24) ≤ 140737488355328)) then l (.next ((catSl v.1 (⟨1, fun i => List.getD [((catSl (c.2.2.1.g (Int.toNat c.2.2.2.2.1)).1 (⟨1, fun i => List.getD [v.2] i v.2⟩ : Sl (Ty.den T0))), ())] i ((catSl (c.2.2.1.g (Int.toNat c.2.2.2.2.1)).1 (⟨1, fun i => List.getD [v.2] i v.2⟩ : Sl (Ty.den T0))), ())⟩ : Sl (Ty.den T30))), ((W (v.2.1 + (1 : Int))), ()))) else l .bad else l .bad else l .bad else l .bad else l (.next (v.1, ((W (v.2.1 + (1 : Int))), ())))) (l .bad) else l .bad else l (.out (.exit 4 (v.1, ())))
theorem z70x0x0x0 (c : ZD cs70x0x0x0) (v : ZD vs70x0x0x0) : roundQ Try.prog E0 G70 0 51 [] ps70x0x0x0 wy70x0x0x0 b70x0x0x0 [] (j70x0x0x0 c v) = Z70x0x0x0 (fun r => .leaf (r.lift j70x0x0x0 je70x0x0x0 ZI ZI c)) .any c v := by kernel_rfl
def S70x0x0x0 (c : ZD cs70x0x0x0) (v : ZD vs70x0x0x0) : RQ vs70x0x0x0 wv70x0x0x0 := Z70x0x0x0 (fun r => r) (fun _ _ => .bad) c v
theorem s70x0x0x0 (c : ZD cs70x0x0x0) (v : ZD vs70x0x0x0) : detQ (roundQ Try.prog E0 G70 0 51 [] ps70x0x0x0 wy70x0x0x0 b70x0x0x0 [] (j70x0x0x0 c v)) = (S70x0x0x0 c v).lift j70x0x0x0 je70x0x0x0 ZI ZI c := by rw [z70x0x0x0]; unfold S70x0x0x0 Z70x0x0x0; simp only [detQ, lift_bad, dqs]
def L70x0x0x0 (c : ZD cs70x0x0x0) (v : ZD vs70x0x0x0) : LQ wv70x0x0x0 := iterQ (S70x0x0x0 c) big v
theorem lo70x0x0 : loopsOf (b70x0x0) = [.loop b70x0x0x0] := by kernel_rfl
abbrev cs70x0x0 : List Pat := [.slot 0 (.pc tI), .slot 1 (.pc tI), .slot 5 (.pc T42), .slot 6 (.pc tI)]
abbrev vs70x0x0 : List Pat := [.slot 7 (.own 1000007 79 T30), .slot 8 (.pc tI)]
abbrev ps70x0x0 : List Pat := cs70x0x0 ++ vs70x0x0
def j70x0x0 : ZJ cs70x0x0 vs70x0x0 ps70x0x0 := ZA _ _
def sp70x0x0 : ZS cs70x0x0 vs70x0x0 ps70x0x0 := ZP _ _
abbrev wy70x0x0 : Ways := ⟨[(2, [.slot 0 (.pc tI), .slot 1 (.pc tI), .slot 6 (.pc tI), .slot 7 (.pc (.sl T30))])], [], []⟩
abbrev wv70x0x0 : Ways := ⟨[(2, [.slot 7 (.pc (.sl T30))])], [], []⟩
def je70x0x0 : ZE cs70x0x0 wv70x0x0 wy70x0x0 := fun id => match id with | 2 => fun c y => (c.1, (c.2.1, (c.2.2.2.1, y))) | _ => ZDf
def Z70x0x0 {α : Type} (l : RQ vs70x0x0 wv70x0x0 → α) (an : α → α → α) (c : ZD cs70x0x0) (v : ZD vs70x0x0) : α := bif (decide (v.2.1 < ((c.2.2.1.n : Nat) : Int))) then onExit (L70x0x0x0 (c.1, (c.2.1, (c.2.2.1, (c.2.2.2.1, v.2)))) (v.1, ((-1 : Int), ()))) 4 (fun u1 => l (.next (u1.1, ((W (v.2.1 + (1 : Int))), ())))) (l .bad) else l (.out (.exit 2 (v.1, ())))
theorem z70x0x0 (c : ZD cs70x0x0) (v : ZD vs70x0x0) : roundQ Try.prog E0 G70 0 51 [] ps70x0x0 wy70x0x0 b70x0x0 [.known (loopZ 0 [] ps70x0x0x0 fun x => spreadV wy70x0x0x0 je70x0x0x0 ZI ZI [] false (sp70x0x0x0 x).1 (L70x0x0x0 (sp70x0x0x0 x).1 (sp70x0x0x0 x).2) wy70x0x0x0.exits)] (j70x0x0 c v) = Z70x0x0 (fun r => .leaf (r.lift j70x0x0 je70x0x0 ZI ZI c)) .any c v := by kernel_rfl
def S70x0x0 (c : ZD cs70x0x0) (v : ZD vs70x0x0) : RQ vs70x0x0 wv70x0x0 := Z70x0x0 (fun r => r) (fun _ _ => .bad) c v
theorem s70x0x0 (c : ZD cs70x0x0) (v : ZD vs70x0x0) : detQ (roundQ Try.prog E0 G70 0 51 [] ps70x0x0 wy70x0x0 b70x0x0 [.known (loopZ 0 [] ps70x0x0x0 fun x => spreadV wy70x0x0x0 je70x0x0x0 ZI ZI [] false (sp70x0x0x0 x).1 (L70x0x0x0 (sp70x0x0x0 x).1 (sp70x0x0x0 x).2) wy70x0x0x0.exits)] (j70x0x0 c v)) = (S70x0x0 c v).lift j70x0x0 je70x0x0 ZI ZI c := by rw [z70x0x0]; unfold S70x0x0 Z70x0x0; simp only [detQ, lift_bad, dqs]
def L70x0x0 (c : ZD cs70x0x0) (v : ZD vs70x0x0) : LQ wv70x0x0 := iterQ (S70x0x0 c) big v
theorem lo70x0 : loopsOf (b70x0) = [.loop b70x0x0] := by kernel_rfl
abbrev cs70x0 : List Pat := [.slot 0 (.pc tI), .slot 1 (.pc tI)]
abbrev vs70x0 : List Pat := [.slot 5 (.pc (.sl T30)), .slot 6 (.pc tI)]
abbrev ps70x0 : List Pat := cs70x0 ++ vs70x0
def j70x0 : ZJ cs70x0 vs70x0 ps70x0 := ZA _ _
def sp70x0 : ZS cs70x0 vs70x0 ps70x0 := ZP _ _
abbrev wy70x0 : Ways := ⟨[(0, [.slot 5 (.pc T42)])], [], []⟩
abbrev wv70x0 : Ways := ⟨[(0, [.slot 5 (.pc T42)])], [], []⟩
def je70x0 : ZE cs70x0 wv70x0 wy70x0 := fun id => match id with | 0 => fun c y => y | _ => ZDf
def Z70x0 {α : Type} (l : RQ vs70x0 wv70x0 → α) (an : α → α → α) (c : ZD cs70x0) (v : ZD vs70x0) : α := bif (decide (v.2.1 < c.1)) then onExit (L70x0x0 (c.1, (c.2.1, v)) ((⟨0, fun i => ((⟨0, fun i => ((0 : Int), ())⟩ : Sl _), ())⟩ : Sl _), ((0 : Int), ()))) 2 (fun u2 => l (.next (u2.1, ((W (v.2.1 + (1 : Int))), ())))) (l .bad) else l (.out (.exit 0 (v.1, ())))
theorem z70x0 (c : ZD cs70x0) (v : ZD vs70x0) : roundQ Try.prog E0 G70 0 51 [] ps70x0 wy70x0 b70x0 [.known (loopZ 0 [] ps70x0x0 fun x => spreadV wy70x0x0 je70x0x0 ZI ZI [] false (sp70x0x0 x).1 (L70x0x0 (sp70x0x0 x).1 (sp70x0x0 x).2) wy70x0x0.exits)] (j70x0 c v) = Z70x0 (fun r => .leaf (r.lift j70x0 je70x0 ZI ZI c)) .any c v := by kernel_rfl
def S70x0 (c : ZD cs70x0) (v : ZD vs70x0) : RQ vs70x0 wv70x0 := Z70x0 (fun r => r) (fun _ _ => .bad) c v
theorem s70x0 (c : ZD cs70x0) (v : ZD vs70x0) : detQ (roundQ Try.prog E0 G70 0 51 [] ps70x0 wy70x0 b70x0 [.known (loopZ 0 [] ps70x0x0 fun x => spreadV wy70x0x0 je70x0x0 ZI ZI [] false (sp70x0x0 x).1 (L70x0x0 (sp70x0x0 x).1 (sp70x0x0 x).2) wy70x0x0.exits)] (j70x0 c v)) = (S70x0 c v).lift j70x0 je70x0 ZI ZI c := by rw [z70x0]; unfold S70x0 Z70x0; simp only [detQ, lift_bad, dqs]
def L70x0 (c : ZD cs70x0) (v : ZD vs70x0) : LQ wv70x0 := iterQ (S70x0 c) big v
theorem lo70 : loopsOf (c70) = [.loop b70x0] := by kernel_rfl
noncomputable def l70 : List Loop := [.known (loopZ 0 [] ps70x0 fun x => spreadV wy70x0 je70x0 ZI ZI [] false (sp70x0 x).1 (L70x0 (sp70x0 x).1 (sp70x0 x).2) wy70x0.exits)]
def Q70 {α : Type} (l : Option (r70).den → α) (an : α → α → α) (x : (a70).den) : α := onExit (L70x0 x ((⟨1, fun i => List.getD [((⟨0, fun i => ((0 : Int), ())⟩ : Sl _), ())] i ((⟨0, fun i => ((0 : Int), ())⟩ : Sl _), ())⟩ : Sl _), ((0 : Int), ()))) 0 (fun u3 => l (some u3)) (l none)
theorem q70 (x : (a70).den) : runFn Try.prog E0 G70 Try.f70 l70 a70 r70 x = Q70 .leaf .any x := by kernel_rfl
def M70 (x : (a70).den) : Option (r70).den := Q70 (fun r => r) (fun _ _ => none) x
theorem m70 (x : (a70).den) : (runFn Try.prog E0 G70 Try.f70 l70 a70 r70 x).sure = M70 x := by rw [q70]; unfold M70 Q70; simp only [Tree.sure, sus]
def p70 (x : (a70).den) : Bool := (M70 x).isSome
def v70 (x : (a70).den) : (r70).den := (M70 x).getD (r70).dflt
def k70 : Con := ⟨a70, r70, p70, v70⟩
theorem h70 : Holds Try.prog 70 k70 := holds_of_M' (E := E0) follows_ok g70 eqTy_sound keyTy_sound at70 bd70 (by kernel_rfl) m70 fun G' hlo hF hE => LsOK_kn (by rw [lo70]; exact .cons (loopV_ok hE hF hlo (LsOK_kn (by rw [lo70x0]; exact .cons (loopV_ok hE hF hlo (LsOK_kn (by rw [lo70x0x0]; exact .cons (loopV_ok hE hF hlo (LsOK_kn (by rw [lo70x0x0x0]; exact .nil)) (by kernel_rfl) (by kernel_rfl) sp70x0x0x0 (fun _ => rfl) (fun _ _ => rfl) (s70x0x0x0) big) (.nil))) (by kernel_rfl) (by kernel_rfl) sp70x0x0 (fun _ => rfl) (fun _ _ => rfl) (s70x0x0) big) (.nil))) (by kernel_rfl) (by kernel_rfl) sp70x0 (fun _ => rfl) (fun _ _ => rfl) (s70x0) big) (.nil))
noncomputable def c119 : Code := Try.f119.body.getD .skip
theorem at119 : Try.prog.funcs[119]? = some Try.f119 := by kernel_rfl
theorem bd119 : Try.f119.body = some c119 := by kernel_rfl
theorem cl119 : Callable Try.prog 119 := callable_of at119 (by kernel_rfl) (by kernel_rfl)
abbrev T97 : Ty := (.cons T12 T13)
abbrev a119 : Ty := T97
abbrev r119 : Ty := T3
noncomputable def G119 : Ctx := Ctx.of []
theorem g119 : Sound Try.prog (G119) := sound_of (fun _ h => by cases h)
theorem lo119 : loopsOf (c119) = [] := by kernel_rfl
noncomputable def l119 : List Loop := []
def Q119 {α : Type} (l : Option (r119).den → α) (an : α → α → α) (x : (a119).den) : α := bif (decide (x.2.2.1 < (W (x.1.1 - x.2.1.2.1)))) then l (some (true, ())) else l (some ((decide (x.2.2.1 < (W (x.2.1.1 - x.1.2.1)))), ()))
theorem q119 (x : (a119).den) : runFn Try.prog E0 G119 Try.f119 l119 a119 r119 x = Q119 .leaf .any x := by kernel_rfl
def M119 (x : (a119).den) : Option (r119).den := Q119 (fun r => r) (fun _ _ => none) x
theorem m119 (x : (a119).den) : (runFn Try.prog E0 G119 Try.f119 l119 a119 r119 x).sure = M119 x := by rw [q119]; unfold M119 Q119; simp only [Tree.sure, sus]
def p119 (x : (a119).den) : Bool := (M119 x).isSome
def v119 (x : (a119).den) : (r119).den := (M119 x).getD (r119).dflt
def k119 : Con := ⟨a119, r119, p119, v119⟩
theorem h119 : Holds Try.prog 119 k119 := holds_of_M' (E := E0) follows_ok g119 eqTy_sound keyTy_sound at119 bd119 (by kernel_rfl) m119 fun G' hlo hF hE => LsOK_kn (by rw [lo119]; exact .nil)
noncomputable def c101 : Code := Try.f101.body.getD .skip
theorem at101 : Try.prog.funcs[101]? = some Try.f101 := by kernel_rfl
theorem bd101 : Try.f101.body = some c101 := by kernel_rfl
theorem cl101 : Callable Try.prog 101 := callable_of at101 (by kernel_rfl) (by kernel_rfl)
abbrev T98 : Ty := (.cons T18 T4)
abbrev a101 : Ty := T98
abbrev r101 : Ty := T3
noncomputable def G101 : Ctx := Ctx.of [(119, .pure k119)]
theorem g101 : Sound Try.prog (G101) := sound_of (List.forall_mem_cons.2 ⟨⟨cl119, h119⟩, fun _ h => by cases h⟩)
theorem lo101 : loopsOf (c101) = [] := by kernel_rfl
noncomputable def l101 : List Loop := []
def Q101 {α : Type} (l : Option (r101).den → α) (an : α → α → α) (x : (a101).den) : α := bif (decide (((0 : Int) ≤ x.2.1) ∧ (x.2.1 < ((x.1.1.n : Nat) : Int)))) then bif (decide (((0 : Int) ≤ x.2.2.1) ∧ (x.2.2.1 < (((x.1.1.g (Int.toNat x.2.1)).2.1.n : Nat) : Int)))) then bif (decide (((0 : Int) ≤ x.2.2.2.1) ∧ (x.2.2.2.1 < ((x.1.1.n : Nat) : Int)))) then bif (decide (((0 : Int) ≤ x.2.2.2.2.1) ∧ (x.2.2.2.2.1 < (((x.1.1.g (Int.toNat x.2.2.2.1)).2.1.n : Nat) : Int)))) then bif (decide (((0 : Int) ≤ x.2.1) ∧ (x.2.1 < ((x.1.1.n : Nat) : Int)))) then bif (decide (((0 : Int) ≤ x.2.2.2.1) ∧ (x.2.2.2.1 < ((x.1.1.n : Nat) : Int)))) then bif (decide (((0 : Int) ≤ x.2.2.2.1) ∧ (x.2.2.2.1 < ((x.1.1.n : Nat) : Int)))) then bif (decide (((0 : Int) ≤ x.2.1) ∧ (x.2.1 < ((x.1.1.n : Nat) : Int)))) then cl (r119).dflt (M119 ((((x.1.1.g (Int.toNat x.2.1)).2.1.g (Int.toNat x.2.2.1)).1, (((x.1.1.g (Int.toNat x.2.1)).2.1.g (Int.toNat x.2.2.1)).2.1, ())), ((((x.1.1.g (Int.toNat x.2.2.2.1)).2.1.g (Int.toNat x.2.2.2.2.1)).1, (((x.1.1.g (Int.toNat x.2.2.2.1)).2.1.g (Int.toNat x.2.2.2.2.1)).2.1, ())), ((W (x.1.2.1 * (mx (W ((x.1.1.g (Int.toNat x.2.1)).1 - (x.1.1.g (Int.toNat x.2.2.2.1)).1)) (W ((x.1.1.g (Int.toNat x.2.2.2.1)).1 - (x.1.1.g (Int.toNat x.2.1)).1))))), ())))) (fun u0 => bif (!u0.1) then cl (r119).dflt (M119 ((((x.1.1.g (Int.toNat x.2.1)).2.1.g (Int.toNat x.2.2.1)).2.2.1, (((x.1.1.g (Int.toNat x.2.1)).2.1.g (Int.toNat x.2.2.1)).2.2.2.1, ())), ((((x.1.1.g (Int.toNat x.2.2.2.1)).2.1.g (Int.toNat x.2.2.2.2.1)).2.2.1, (((x.1.1.g (Int.toNat x.2.2.2.1)).2.1.g (Int.toNat x.2.2.2.2.1)).2.2.2.1, ())), ((W (x.1.2.1 * (mx (W ((x.1.1.g (Int.toNat x.2.1)).1 - (x.1.1.g (Int.toNat x.2.2.2.1)).1)) (W ((x.1.1.g (Int.toNat x.2.2.2.1)).1 - (x.1.1.g (Int.toNat x.2.1)).1))))), ())))) (fun u1 => bif (!u1.1) then cl (r119).dflt (M119 (((x.1.1.g (Int.toNat x.2.1)).2.1.g (Int.toNat x.2.2.1)).2.2.2.2, (((x.1.1.g (Int.toNat x.2.2.2.1)).2.1.g (Int.toNat x.2.2.2.2.1)).2.2.2.2, ((W (x.1.2.2.1 * (mx (W ((x.1.1.g (Int.toNat x.2.1)).1 - (x.1.1.g (Int.toNat x.2.2.2.1)).1)) (W ((x.1.1.g (Int.toNat x.2.2.2.1)).1 - (x.1.1.g (Int.toNat x.2.1)).1))))), ())))) (fun u2 => l (some ((!u2.1), ()))) (l none) else l (some (false, ()))) (l none) else l (some (false, ()))) (l none) else l none else l none else l none else l none else l none else l none else l none else l none
theorem q101 (x : (a101).den) : runFn Try.prog E0 G101 Try.f101 l101 a101 r101 x = Q101 .leaf .any x := by kernel_rfl
def M101 (x : (a101).den) : Option (r101).den := Q101 (fun r => r) (fun _ _ => none) x
theorem m101 (x : (a101).den) : (runFn Try.prog E0 G101 Try.f101 l101 a101 r101 x).sure = M101 x := by rw [q101]; unfold M101 Q101; simp only [Tree.sure, sus]
def p101 (x : (a101).den) : Bool := (M101 x).isSome
def v101 (x : (a101).den) : (r101).den := (M101 x).getD (r101).dflt
def k101 : Con := ⟨a101, r101, p101, v101⟩
theorem h101 : Holds Try.prog 101 k101 := holds_of_M' (E := E0) follows_ok g101 eqTy_sound keyTy_sound at101 bd101 (by kernel_rfl) m101 fun G' hlo hF hE => LsOK_kn (by rw [lo101]; exact .nil)
noncomputable def c71 : Code := Try.f71.body.getD .skip
theorem at71 : Try.prog.funcs[71]? = some Try.f71 := by kernel_rfl
theorem bd71 : Try.f71.body = some c71 := by kernel_rfl
theorem cl71 : Callable Try.prog 71 := callable_of at71 (by kernel_rfl) (by kernel_rfl)
abbrev T99 : Ty := (.cons T18 T43)
abbrev a71 : Ty := T99
abbrev r71 : Ty := T3
noncomputable def G71 : Ctx := Ctx.of [(101, .pure k101)]
theorem g71 : Sound Try.prog (G71) := sound_of (List.forall_mem_cons.2 ⟨⟨cl101, h101⟩, fun _ h => by cases h⟩)
noncomputable def b71x0 : Code := loopBody ((loopsOf (c71))[0]?)
noncomputable def b71x0x0 : Code := loopBody ((loopsOf (b71x0))[0]?)
theorem lo71x0x0 : loopsOf (b71x0x0) = [] := by kernel_rfl
abbrev cs71x0x0 : List Pat := [.slot 1 (.pc T42), .slot 2 (.ptr 2), .slot 5 (.pc tI), .slot 6 (.pc tI), .box 2 [.pc T16, .pc tI, .pc tI, .pc tI, .pc tI]]
abbrev vs71x0x0 : List Pat := [.slot 7 (.pc tI), .slot 8 (.pc tI)]
abbrev ps71x0x0 : List Pat := cs71x0x0 ++ vs71x0x0
def j71x0x0 : ZJ cs71x0x0 vs71x0x0 ps71x0x0 := ZA _ _
def sp71x0x0 : ZS cs71x0x0 vs71x0x0 ps71x0x0 := ZP _ _
abbrev wy71x0x0 : Ways := ⟨[(2, [.slot 1 (.pc T42), .slot 2 (.ptr 2), .slot 5 (.pc tI), .slot 6 (.pc tI), .box 2 [.pc T16, .pc tI, .pc tI, .pc tI, .pc tI]])], [.slot 4 (.pc .bool)], []⟩
abbrev wv71x0x0 : Ways := ⟨[(2, [])], [.slot 4 (.pc .bool)], []⟩
def je71x0x0 : ZE cs71x0x0 wv71x0x0 wy71x0x0 := fun id => match id with | 2 => fun c y => (c.1, (c.2.1, (c.2.2.1, (c.2.2.2.1, (c.2.2.2.2.1, y))))) | _ => ZDf
def Z71x0x0 {α : Type} (l : RQ vs71x0x0 wv71x0x0 → α) (an : α → α → α) (c : ZD cs71x0x0) (v : ZD vs71x0x0) : α := bif (decide (((0 : Int) ≤ v.1) ∧ (v.1 < ((c.1.n : Nat) : Int)))) then bif (decide (((0 : Int) ≤ v.2.1) ∧ (v.2.1 < (((c.1.g (Int.toNat v.1)).1.n : Nat) : Int)))) then bif (decide ((0 : Int) ≤ ((c.1.g (Int.toNat v.1)).1.g (Int.toNat v.2.1)).1)) then bif (decide (((0 : Int) ≤ v.1) ∧ (v.1 < ((c.1.n : Nat) : Int)))) then bif (decide (((0 : Int) ≤ v.2.1) ∧ (v.2.1 < (((c.1.g (Int.toNat v.1)).1.n : Nat) : Int)))) then cl (r101).dflt (M101 (c.2.2.2.2.1, (c.2.2.1, (c.2.2.2.1, ((W (v.1 - (1 : Int))), ((c.1.g (Int.toNat v.1)).1.g (Int.toNat v.2.1))))))) (fun u0 => bif (!u0.1) then l (.out (.ret (false, ()))) else l (.next ((W (v.1 - (1 : Int))), ((c.1.g (Int.toNat v.1)).1.g (Int.toNat v.2.1))))) (l .bad) else l .bad else l .bad else l (.out (.exit 2 ())) else l .bad else l .bad
theorem z71x0x0 (c : ZD cs71x0x0) (v : ZD vs71x0x0) : roundQ Try.prog E0 G71 0 47 [] ps71x0x0 wy71x0x0 b71x0x0 [] (j71x0x0 c v) = Z71x0x0 (fun r => .leaf (r.lift j71x0x0 je71x0x0 ZI ZI c)) .any c v := by kernel_rfl
def S71x0x0 (c : ZD cs71x0x0) (v : ZD vs71x0x0) : RQ vs71x0x0 wv71x0x0 := Z71x0x0 (fun r => r) (fun _ _ => .bad) c v
theorem s71x0x0 (c : ZD cs71x0x0) (v : ZD vs71x0x0) : detQ (roundQ Try.prog E0 G71 0 47 [] ps71x0x0 wy71x0x0 b71x0x0 [] (j71x0x0 c v)) = (S71x0x0 c v).lift j71x0x0 je71x0x0 ZI ZI c := by rw [z71x0x0]; unfold S71x0x0 Z71x0x0; simp only [detQ, lift_bad, dqs]
def L71x0x0 (c : ZD cs71x0x0) (v : ZD vs71x0x0) : LQ wv71x0x0 := iterQ (S71x0x0 c) big v
theorem lo71x0 : loopsOf (b71x0) = [.loop b71x0x0] := by kernel_rfl
abbrev cs71x0 : List Pat := [.slot 1 (.pc T42), .slot 2 (.ptr 2), .slot 5 (.pc tI), .box 2 [.pc T16, .pc tI, .pc tI, .pc tI, .pc tI]]
abbrev vs71x0 : List Pat := [.slot 6 (.pc tI)]
abbrev ps71x0 : List Pat := cs71x0 ++ vs71x0
def j71x0 : ZJ cs71x0 vs71x0 ps71x0 := ZA _ _
def sp71x0 : ZS cs71x0 vs71x0 ps71x0 := ZP _ _
abbrev wy71x0 : Ways := ⟨[(0, [])], [.slot 4 (.pc .bool)], []⟩
abbrev wv71x0 : Ways := ⟨[(0, [])], [.slot 4 (.pc .bool)], []⟩
def je71x0 : ZE cs71x0 wv71x0 wy71x0 := fun id => match id with | 0 => fun c y => y | _ => ZDf
def Z71x0 {α : Type} (l : RQ vs71x0 wv71x0 → α) (an : α → α → α) (c : ZD cs71x0) (v : ZD vs71x0) : α := bif (decide (((0 : Int) ≤ c.2.2.1) ∧ (c.2.2.1 < ((c.1.n : Nat) : Int)))) then bif (decide (v.1 < (((c.1.g (Int.toNat c.2.2.1)).1.n : Nat) : Int))) then onExit (L71x0x0 (c.1, ((), (c.2.2.1, (v.1, (c.2.2.2.1, ()))))) (c.2.2.1, v)) 2 (fun u1 => l (.next ((W (v.1 + (1 : Int))), ()))) (onRet (L71x0x0 (c.1, ((), (c.2.2.1, (v.1, (c.2.2.2.1, ()))))) (c.2.2.1, v)) (fun u2 => l (.out (.ret u2))) (l .bad)) else l (.out (.exit 0 ())) else l .bad
theorem z71x0 (c : ZD cs71x0) (v : ZD vs71x0) : roundQ Try.prog E0 G71 0 47 [] ps71x0 wy71x0 b71x0 [.known (loopZ 0 [] ps71x0x0 fun x => spreadV wy71x0x0 je71x0x0 ZI ZI [] true (sp71x0x0 x).1 (L71x0x0 (sp71x0x0 x).1 (sp71x0x0 x).2) wy71x0x0.exits)] (j71x0 c v) = Z71x0 (fun r => .leaf (r.lift j71x0 je71x0 ZI ZI c)) .any c v := by kernel_rfl
def S71x0 (c : ZD cs71x0) (v : ZD vs71x0) : RQ vs71x0 wv71x0 := Z71x0 (fun r => r) (fun _ _ => .bad) c v
theorem s71x0 (c : ZD cs71x0) (v : ZD vs71x0) : detQ (roundQ Try.prog E0 G71 0 47 [] ps71x0 wy71x0 b71x0 [.known (loopZ 0 [] ps71x0x0 fun x => spreadV wy71x0x0 je71x0x0 ZI ZI [] true (sp71x0x0 x).1 (L71x0x0 (sp71x0x0 x).1 (sp71x0x0 x).2) wy71x0x0.exits)] (j71x0 c v)) = (S71x0 c v).lift j71x0 je71x0 ZI ZI c := by rw [z71x0]; unfold S71x0 Z71x0; simp only [detQ, lift_bad, dqs]
def L71x0 (c : ZD cs71x0) (v : ZD vs71x0) : LQ wv71x0 := iterQ (S71x0 c) big v
theorem lo71 : loopsOf (c71) = [.loop b71x0] := by kernel_rfl
noncomputable def l71 : List Loop := [.known (loopZ 0 [] ps71x0 fun x => spreadV wy71x0 je71x0 ZI ZI [] true (sp71x0 x).1 (L71x0 (sp71x0 x).1 (sp71x0 x).2) wy71x0.exits)]
def Q71 {α : Type} (l : Option (r71).den → α) (an : α → α → α) (x : (a71).den) : α := onExit (L71x0 (x.2.1, ((), ((W (((x.2.1.n : Nat) : Int) - (1 : Int))), (x.1, ())))) ((0 : Int), ())) 0 (fun u3 => l (some (true, ()))) (onRet (L71x0 (x.2.1, ((), ((W (((x.2.1.n : Nat) : Int) - (1 : Int))), (x.1, ())))) ((0 : Int), ())) (fun u4 => l (some u4)) (l none))
theorem q71 (x : (a71).den) : runFn Try.prog E0 G71 Try.f71 l71 a71 r71 x = Q71 .leaf .any x := by kernel_rfl
def M71 (x : (a71).den) : Option (r71).den := Q71 (fun r => r) (fun _ _ => none) x
theorem m71 (x : (a71).den) : (runFn Try.prog E0 G71 Try.f71 l71 a71 r71 x).sure = M71 x := by rw [q71]; unfold M71 Q71; simp only [Tree.sure, sus]
def p71 (x : (a71).den) : Bool := (M71 x).isSome
def v71 (x : (a71).den) : (r71).den := (M71 x).getD (r71).dflt
def k71 : Con := ⟨a71, r71, p71, v71⟩
theorem h71 : Holds Try.prog 71 k71 := holds_of_M' (E := E0) follows_ok g71 eqTy_sound keyTy_sound at71 bd71 (by kernel_rfl) m71 fun G' hlo hF hE => LsOK_kn (by rw [lo71]; exact .cons (loopV_ok hE hF hlo (LsOK_kn (by rw [lo71x0]; exact .cons (loopV_ok hE hF hlo (LsOK_kn (by rw [lo71x0x0]; exact .nil)) (by kernel_rfl) (by kernel_rfl) sp71x0x0 (fun _ => rfl) (fun _ _ => rfl) (s71x0x0) big) (.nil))) (by kernel_rfl) (by kernel_rfl) sp71x0 (fun _ => rfl) (fun _ _ => rfl) (s71x0) big) (.nil))
noncomputable def c22 : Code := Try.f22.body.getD .skip
theorem at22 : Try.prog.funcs[22]? = some Try.f22 := by kernel_rfl
theorem bd22 : Try.f22.body = some c22 := by kernel_rfl
theorem cl22 : Callable Try.prog 22 := callable_of at22 (by kernel_rfl) (by kernel_rfl)
abbrev T100 : Ty := (.sl T43)
abbrev T101 : Ty := (.cons T100 .nil)
abbrev a22 : Ty := T19
abbrev r22 : Ty := T101
noncomputable def G22 : Ctx := Ctx.of [(56, .pure k56), (61, .pure k61), (70, .pure k70), (71, .pure k71)]
theorem g22 : Sound Try.prog (G22) := sound_of (List.forall_mem_cons.2 ⟨⟨cl56, h56⟩, List.forall_mem_cons.2 ⟨⟨cl61, h61⟩, List.forall_mem_cons.2 ⟨⟨cl70, h70⟩, List.forall_mem_cons.2 ⟨⟨cl71, h71⟩, fun _ h => by cases h⟩⟩⟩⟩)
noncomputable def b22x0 : Code := loopBody ((loopsOf (c22))[0]?)
noncomputable def b22x0x0 : Code := loopBody ((loopsOf (b22x0))[0]?)
noncomputable def b22x0x0x0 : Code := loopBody ((loopsOf (b22x0x0))[0]?)
theorem lo22x0x0x0 : loopsOf (b22x0x0x0) = [] := by kernel_rfl
abbrev cs22x0x0x0 : List Pat := [.slot 1 (.ptr 1), .slot 4 (.pc T100), .slot 5 (.pc tI), .slot 6 (.pc T42), .slot 8 (.pc tI), .box 1 [.pc T16, .pc tI, .pc tI, .pc tI, .pc tI]]
abbrev vs22x0x0x0 : List Pat := [.slot 7 (.own 1000007 58 T43), .slot 9 (.pc tI)]
abbrev ps22x0x0x0 : List Pat := cs22x0x0x0 ++ vs22x0x0x0
def j22x0x0x0 : ZJ cs22x0x0x0 vs22x0x0x0 ps22x0x0x0 := ZA _ _
def sp22x0x0x0 : ZS cs22x0x0x0 vs22x0x0x0 ps22x0x0x0 := ZP _ _
abbrev wy22x0x0x0 : Ways := ⟨[(4, [.slot 1 (.ptr 1), .slot 4 (.pc T100), .slot 5 (.pc tI), .slot 6 (.pc T42), .slot 8 (.pc tI), .box 1 [.pc T16, .pc tI, .pc tI, .pc tI, .pc tI], .slot 7 (.own 1000007 58 T43)])], [], []⟩
abbrev wv22x0x0x0 : Ways := ⟨[(4, [.slot 7 (.own 1000007 58 T43)])], [], []⟩
def je22x0x0x0 : ZE cs22x0x0x0 wv22x0x0x0 wy22x0x0x0 := fun id => match id with | 4 => fun c y => (c.1, (c.2.1, (c.2.2.1, (c.2.2.2.1, (c.2.2.2.2.1, (c.2.2.2.2.2.1, y)))))) | _ => ZDf
def Z22x0x0x0 {α : Type} (l : RQ vs22x0x0x0 wv22x0x0x0 → α) (an : α → α → α) (c : ZD cs22x0x0x0) (v : ZD vs22x0x0x0) : α := bif (decide (v.2.1 < ((c.2.2.2.1.n : Nat) : Int))) then bif (decide (((0 : Int) ≤ c.2.2.2.2.1) ∧ (c.2.2.2.2.1 < ((c.2.1.n : Nat) : Int)))) then bif (decide (((c.2.1.g (Int.toNat c.2.2.2.2.1)).1.n * 24) ≤ 140737488355328)) then bif (decide (((0 : Int) ≤ v.2.1) ∧ (v.2.1 < ((c.2.2.2.1.n : Nat) : Int)))) then bif (decide ((((c.2.1.g (Int.toNat c.2.2.2.2.1)).1.n + 1) * 24) ≤ 140737488355328)) then cl (r56).dflt (M56 ((catSl (c.2.1.g (Int.toNat c.2.2.2.2.1)).1 (⟨1, fun i => List.getD [(c.2.2.2.1.g (Int.toNat v.2.1))] i (c.2.2.2.1.g (Int.toNat v.2.1))⟩ : Sl (Ty.den T30))), ())) (fun u0 => bif (decide (u0.1 ≤ c.2.2.2.2.2.1.2.2.2.1)) then cl (r61).dflt (M61 ((catSl (c.2.1.g (Int.toNat c.2.2.2.2.1)).1 (⟨1, fun i => List.getD [(c.2.2.2.1.g (Int.toNat v.2.1))] i (c.2.2.2.1.g (Int.toNat v.2.1))⟩ : Sl (Ty.den T30))), ())) (fun u1 => bif (decide (u1.1 ≤ c.2.2.2.2.2.1.2.2.2.2.1)) then cl (r71).dflt (M71 (c.2.2.2.2.2.1, ((catSl (c.2.1.g (Int.toNat c.2.2.2.2.1)).1 (⟨1, fun i => List.getD [(c.2.2.2.1.g (Int.toNat v.2.1))] i (c.2.2.2.1.g (Int.toNat v.2.1))⟩ : Sl (Ty.den T30))), ()))) (fun u2 => bif u2.1 then bif (decide (((v.1.n + 1) * 24) ≤ 140737488355328)) then l (.next ((catSl v.1 (⟨1, fun i => List.getD [((catSl (c.2.1.g (Int.toNat c.2.2.2.2.1)).1 (⟨1, fun i => List.getD [(c.2.2.2.1.g (Int.toNat v.2.1))] i (c.2.2.2.1.g (Int.toNat v.2.1))⟩ : Sl (Ty.den T30))), ())] i ((catSl (c.2.1.g (Int.toNat c.2.2.2.2.1)).1 (⟨1, fun i => List.getD [(c.2.2.2.1.g (Int.toNat v.2.1))] i (c.2.2.2.1.g (Int.toNat v.2.1))⟩ : Sl (Ty.den T30))), ())⟩ : Sl (Ty.den T43))), ((W (v.2.1 + (1 : Int))), ()))) else l .bad else l (.next (v.1, ((W (v.2.1 + (1 : Int))), ())))) (l .bad) else l (.next (v.1, ((W (v.2.1 + (1 : Int))), ())))) (l .bad) else l (.next (v.1, ((W (v.2.1 + (1 : Int))), ())))) (l .bad) else l .bad else l .bad else l .bad else l .bad else l (.out (.exit 4 (v.1, ())))
theorem z22x0x0x0 (c : ZD cs22x0x0x0) (v : ZD vs22x0x0x0) : roundQ Try.prog E0 G22 0 89 [] ps22x0x0x0 wy22x0x0x0 b22x0x0x0 [] (j22x0x0x0 c v) = Z22x0x0x0 (fun r => .leaf (r.lift j22x0x0x0 je22x0x0x0 ZI ZI c)) .any c v := by kernel_rfl
def S22x0x0x0 (c : ZD cs22x0x0x0) (v : ZD vs22x0x0x0) : RQ vs22x0x0x0 wv22x0x0x0 := Z22x0x0x0 (fun r => r) (fun _ _ => .bad) c v
theorem s22x0x0x0 (c : ZD cs22x0x0x0) (v : ZD vs22x0x0x0) : detQ (roundQ Try.prog E0 G22 0 89 [] ps22x0x0x0 wy22x0x0x0 b22x0x0x0 [] (j22x0x0x0 c v)) = (S22x0x0x0 c v).lift j22x0x0x0 je22x0x0x0 ZI ZI c := by rw [z22x0x0x0]; unfold S22x0x0x0 Z22x0x0x0; simp only [detQ, lift_bad, dqs]
def L22x0x0x0 (c : ZD cs22x0x0x0) (v : ZD vs22x0x0x0) : LQ wv22x0x0x0 := iterQ (S22x0x0x0 c) big v
theorem lo22x0x0 : loopsOf (b22x0x0) = [.loop b22x0x0x0] := by kernel_rfl
abbrev cs22x0x0 : List Pat := [.slot 1 (.ptr 1), .slot 4 (.pc T100), .slot 5 (.pc tI), .slot 6 (.pc T42), .box 1 [.pc T16, .pc tI, .pc tI, .pc tI, .pc tI]]
abbrev vs22x0x0 : List Pat := [.slot 7 (.own 1000007 58 T43), .slot 8 (.pc tI)]
abbrev ps22x0x0 : List Pat := cs22x0x0 ++ vs22x0x0
def j22x0x0 : ZJ cs22x0x0 vs22x0x0 ps22x0x0 := ZA _ _
def sp22x0x0 : ZS cs22x0x0 vs22x0x0 ps22x0x0 := ZP _ _
abbrev wy22x0x0 : Ways := ⟨[(2, [.slot 1 (.ptr 1), .slot 5 (.pc tI), .box 1 [.pc T16, .pc tI, .pc tI, .pc tI, .pc tI], .slot 7 (.pc (.sl T43))])], [], []⟩
abbrev wv22x0x0 : Ways := ⟨[(2, [.slot 7 (.pc (.sl T43))])], [], []⟩
def je22x0x0 : ZE cs22x0x0 wv22x0x0 wy22x0x0 := fun id => match id with | 2 => fun c y => (c.1, (c.2.2.1, (c.2.2.2.2.1, y))) | _ => ZDf
def Z22x0x0 {α : Type} (l : RQ vs22x0x0 wv22x0x0 → α) (an : α → α → α) (c : ZD cs22x0x0) (v : ZD vs22x0x0) : α := bif (decide (v.2.1 < ((c.2.1.n : Nat) : Int))) then onExit (L22x0x0x0 ((), (c.2.1, (c.2.2.1, (c.2.2.2.1, (v.2.1, (c.2.2.2.2.1, ())))))) (v.1, ((0 : Int), ()))) 4 (fun u3 => l (.next (u3.1, ((W (v.2.1 + (1 : Int))), ())))) (l .bad) else l (.out (.exit 2 (v.1, ())))
theorem z22x0x0 (c : ZD cs22x0x0) (v : ZD vs22x0x0) : roundQ Try.prog E0 G22 0 89 [] ps22x0x0 wy22x0x0 b22x0x0 [.known (loopZ 0 [] ps22x0x0x0 fun x => spreadV wy22x0x0x0 je22x0x0x0 ZI ZI [] false (sp22x0x0x0 x).1 (L22x0x0x0 (sp22x0x0x0 x).1 (sp22x0x0x0 x).2) wy22x0x0x0.exits)] (j22x0x0 c v) = Z22x0x0 (fun r => .leaf (r.lift j22x0x0 je22x0x0 ZI ZI c)) .any c v := by kernel_rfl
def S22x0x0 (c : ZD cs22x0x0) (v : ZD vs22x0x0) : RQ vs22x0x0 wv22x0x0 := Z22x0x0 (fun r => r) (fun _ _ => .bad) c v
theorem s22x0x0 (c : ZD cs22x0x0) (v : ZD vs22x0x0) : detQ (roundQ Try.prog E0 G22 0 89 [] ps22x0x0 wy22x0x0 b22x0x0 [.known (loopZ 0 [] ps22x0x0x0 fun x => spreadV wy22x0x0x0 je22x0x0x0 ZI ZI [] false (sp22x0x0x0 x).1 (L22x0x0x0 (sp22x0x0x0 x).1 (sp22x0x0x0 x).2) wy22x0x0x0.exits)] (j22x0x0 c v)) = (S22x0x0 c v).lift j22x0x0 je22x0x0 ZI ZI c := by rw [z22x0x0]; unfold S22x0x0 Z22x0x0; simp only [detQ, lift_bad, dqs]
def L22x0x0 (c : ZD cs22x0x0) (v : ZD vs22x0x0) : LQ wv22x0x0 := iterQ (S22x0x0 c) big v
theorem lo22x0 : loopsOf (b22x0) = [.loop b22x0x0] := by kernel_rfl
abbrev cs22x0 : List Pat := [.slot 1 (.ptr 1), .box 1 [.pc T16, .pc tI, .pc tI, .pc tI, .pc tI]]
abbrev vs22x0 : List Pat := [.slot 4 (.pc (.sl T43)), .slot 5 (.pc tI)]
abbrev ps22x0 : List Pat := cs22x0 ++ vs22x0
def j22x0 : ZJ cs22x0 vs22x0 ps22x0 := ZA _ _
def sp22x0 : ZS cs22x0 vs22x0 ps22x0 := ZP _ _
abbrev wy22x0 : Ways := ⟨[(0, [.slot 4 (.pc T100)])], [], []⟩
abbrev wv22x0 : Ways := ⟨[(0, [.slot 4 (.pc T100)])], [], []⟩
def je22x0 : ZE cs22x0 wv22x0 wy22x0 := fun id => match id with | 0 => fun c y => y | _ => ZDf
def Z22x0 {α : Type} (l : RQ vs22x0 wv22x0 → α) (an : α → α → α) (c : ZD cs22x0) (v : ZD vs22x0) : α := bif (decide (v.2.1 < ((c.2.1.1.n : Nat) : Int))) then bif (decide (((0 : Int) ≤ v.2.1) ∧ (v.2.1 < ((c.2.1.1.n : Nat) : Int)))) then bif (decide (((0 : Int) ≤ (W (v.2.1 - (1 : Int)))) ∧ ((W (v.2.1 - (1 : Int))) < ((c.2.1.1.n : Nat) : Int)))) then cl (r70).dflt (M70 ((((c.2.1.1.g (Int.toNat v.2.1)).2.1.n : Nat) : Int), ((((c.2.1.1.g (Int.toNat (W (v.2.1 - (1 : Int))))).2.1.n : Nat) : Int), ()))) (fun u4 => onExit (L22x0x0 ((), (v.1, (v.2.1, (u4.1, (c.2.1, ()))))) ((⟨0, fun i => ((⟨0, fun i => ((⟨0, fun i => ((0 : Int), ())⟩ : Sl _), ())⟩ : Sl _), ())⟩ : Sl _), ((0 : Int), ()))) 2 (fun u5 => l (.next (u5.1, ((W (v.2.1 + (1 : Int))), ())))) (l .bad)) (l .bad) else l .bad else l .bad else l (.out (.exit 0 (v.1, ())))
theorem z22x0 (c : ZD cs22x0) (v : ZD vs22x0) : roundQ Try.prog E0 G22 0 89 [] ps22x0 wy22x0 b22x0 [.known (loopZ 0 [] ps22x0x0 fun x => spreadV wy22x0x0 je22x0x0 ZI ZI [] false (sp22x0x0 x).1 (L22x0x0 (sp22x0x0 x).1 (sp22x0x0 x).2) wy22x0x0.exits)] (j22x0 c v) = Z22x0 (fun r => .leaf (r.lift j22x0 je22x0 ZI ZI c)) .any c v := by kernel_rfl
def S22x0 (c : ZD cs22x0) (v : ZD vs22x0) : RQ vs22x0 wv22x0 := Z22x0 (fun r => r) (fun _ _ => .bad) c v
theorem s22x0 (c : ZD cs22x0) (v : ZD vs22x0) : detQ (roundQ Try.prog E0 G22 0 89 [] ps22x0 wy22x0 b22x0 [.known (loopZ 0 [] ps22x0x0 fun x => spreadV wy22x0x0 je22x0x0 ZI ZI [] false (sp22x0x0 x).1 (L22x0x0 (sp22x0x0 x).1 (sp22x0x0 x).2) wy22x0x0.exits)] (j22x0 c v)) = (S22x0 c v).lift j22x0 je22x0 ZI ZI c := by rw [z22x0]; unfold S22x0 Z22x0; simp only [detQ, lift_bad, dqs]
def L22x0 (c : ZD cs22x0) (v : ZD vs22x0) : LQ wv22x0 := iterQ (S22x0 c) big v
theorem lo22 : loopsOf (c22) = [.loop b22x0] := by kernel_rfl
noncomputable def l22 : List Loop := [.known (loopZ 0 [] ps22x0 fun x => spreadV wy22x0 je22x0 ZI ZI [] false (sp22x0 x).1 (L22x0 (sp22x0 x).1 (sp22x0 x).2) wy22x0.exits)]
def Q22 {α : Type} (l : Option (r22).den → α) (an : α → α → α) (x : (a22).den) : α := bif (decide (((0 : Int) ≤ (0 : Int)) ∧ ((0 : Int) < ((x.1.1.n : Nat) : Int)))) then cl (r70).dflt (M70 ((((x.1.1.g 0).2.1.n : Nat) : Int), ((0 : Int), ()))) (fun u6 => onExit (L22x0 ((), (x.1, ())) ((⟨1, fun i => List.getD [u6] i u6⟩ : Sl _), ((1 : Int), ()))) 0 (fun u7 => l (some u7)) (l none)) (l none) else l none
theorem q22 (x : (a22).den) : runFn Try.prog E0 G22 Try.f22 l22 a22 r22 x = Q22 .leaf .any x := by kernel_rfl
def M22 (x : (a22).den) : Option (r22).den := Q22 (fun r => r) (fun _ _ => none) x
theorem m22 (x : (a22).den) : (runFn Try.prog E0 G22 Try.f22 l22 a22 r22 x).sure = M22 x := by rw [q22]; unfold M22 Q22; simp only [Tree.sure, sus]
def p22 (x : (a22).den) : Bool := (M22 x).isSome
def v22 (x : (a22).den) : (r22).den := (M22 x).getD (r22).dflt
def k22 : Con := ⟨a22, r22, p22, v22⟩
theorem h22 : Holds Try.prog 22 k22 := holds_of_M' (E := E0) follows_ok g22 eqTy_sound keyTy_sound at22 bd22 (by kernel_rfl) m22 fun G' hlo hF hE => LsOK_kn (by rw [lo22]; exact .cons (loopV_ok hE hF hlo (LsOK_kn (by rw [lo22x0]; exact .cons (loopV_ok hE hF hlo (LsOK_kn (by rw [lo22x0x0]; exact .cons (loopV_ok hE hF hlo (LsOK_kn (by rw [lo22x0x0x0]; exact .nil)) (by kernel_rfl) (by kernel_rfl) sp22x0x0x0 (fun _ => rfl) (fun _ _ => rfl) (s22x0x0x0) big) (.nil))) (by kernel_rfl) (by kernel_rfl) sp22x0x0 (fun _ => rfl) (fun _ _ => rfl) (s22x0x0) big) (.nil))) (by kernel_rfl) (by kernel_rfl) sp22x0 (fun _ => rfl) (fun _ _ => rfl) (s22x0) big) (.nil))
abbrev T102 : Ty := (.cons T18 T101)
abbrev T103 : Ty := (.cons T100 T0)
abbrev T104 : Ty := (.cons T18 T103)
noncomputable def c27 : Code := Try.f27.body.getD .skip
theorem at27 : Try.prog.funcs[27]? = some Try.f27 := by kernel_rfl
theorem bd27 : Try.f27.body = some c27 := by kernel_rfl
theorem cl27 : Callable Try.prog 27 := callable_of at27 (by kernel_rfl) (by kernel_rfl)
abbrev a27 : Ty := T19
abbrev r27 : Ty := T3
noncomputable def G27 : Ctx := Ctx.of []
theorem g27 : Sound Try.prog (G27) := sound_of (fun _ h => by cases h)
noncomputable def b27x0 : Code := loopBody ((loopsOf (c27))[0]?)
theorem lo27x0 : loopsOf (b27x0) = [] := by kernel_rfl
abbrev cs27x0 : List Pat := [.slot 1 (.ptr 1), .box 1 [.pc T16, .pc tI, .pc tI, .pc tI, .pc tI]]
abbrev vs27x0 : List Pat := [.slot 3 (.pc tI)]
abbrev ps27x0 : List Pat := cs27x0 ++ vs27x0
def j27x0 : ZJ cs27x0 vs27x0 ps27x0 := ZA _ _
def sp27x0 : ZS cs27x0 vs27x0 ps27x0 := ZP _ _
abbrev wy27x0 : Ways := ⟨[(0, [])], [.slot 2 (.pc .bool)], []⟩
abbrev wv27x0 : Ways := ⟨[(0, [])], [.slot 2 (.pc .bool)], []⟩
def je27x0 : ZE cs27x0 wv27x0 wy27x0 := fun id => match id with | 0 => fun c y => y | _ => ZDf
def Z27x0 {α : Type} (l : RQ vs27x0 wv27x0 → α) (an : α → α → α) (c : ZD cs27x0) (v : ZD vs27x0) : α := bif (decide (v.1 < ((c.2.1.1.n : Nat) : Int))) then bif (decide (((0 : Int) ≤ v.1) ∧ (v.1 < ((c.2.1.1.n : Nat) : Int)))) then bif (decide ((2 : Int) < (((c.2.1.1.g (Int.toNat v.1)).2.1.n : Nat) : Int))) then bif (decide ((3 : Int) < ((c.2.1.1.n : Nat) : Int))) then l (.out (.ret (false, ()))) else l (.next ((W (v.1 + (1 : Int))), ())) else l (.next ((W (v.1 + (1 : Int))), ())) else l .bad else l (.out (.exit 0 ()))
theorem z27x0 (c : ZD cs27x0) (v : ZD vs27x0) : roundQ Try.prog E0 G27 0 25 [] ps27x0 wy27x0 b27x0 [] (j27x0 c v) = Z27x0 (fun r => .leaf (r.lift j27x0 je27x0 ZI ZI c)) .any c v := by kernel_rfl
def S27x0 (c : ZD cs27x0) (v : ZD vs27x0) : RQ vs27x0 wv27x0 := Z27x0 (fun r => r) (fun _ _ => .bad) c v
theorem s27x0 (c : ZD cs27x0) (v : ZD vs27x0) : detQ (roundQ Try.prog E0 G27 0 25 [] ps27x0 wy27x0 b27x0 [] (j27x0 c v)) = (S27x0 c v).lift j27x0 je27x0 ZI ZI c := by rw [z27x0]; unfold S27x0 Z27x0; simp only [detQ, lift_bad, dqs]
def L27x0 (c : ZD cs27x0) (v : ZD vs27x0) : LQ wv27x0 := iterQ (S27x0 c) big v
theorem lo27 : loopsOf (c27) = [.loop b27x0] := by kernel_rfl
noncomputable def l27 : List Loop := [.known (loopZ 0 [] ps27x0 fun x => spreadV wy27x0 je27x0 ZI ZI [] true (sp27x0 x).1 (L27x0 (sp27x0 x).1 (sp27x0 x).2) wy27x0.exits)]
def Q27 {α : Type} (l : Option (r27).den → α) (an : α → α → α) (x : (a27).den) : α := onExit (L27x0 ((), (x.1, ())) ((0 : Int), ())) 0 (fun u0 => l (some (true, ()))) (onRet (L27x0 ((), (x.1, ())) ((0 : Int), ())) (fun u1 => l (some u1)) (l none))
theorem q27 (x : (a27).den) : runFn Try.prog E0 G27 Try.f27 l27 a27 r27 x = Q27 .leaf .any x := by kernel_rfl
def M27 (x : (a27).den) : Option (r27).den := Q27 (fun r => r) (fun _ _ => none) x
theorem m27 (x : (a27).den) : (runFn Try.prog E0 G27 Try.f27 l27 a27 r27 x).sure = M27 x := by rw [q27]; unfold M27 Q27; simp only [Tree.sure, sus]
def p27 (x : (a27).den) : Bool := (M27 x).isSome
def v27 (x : (a27).den) : (r27).den := (M27 x).getD (r27).dflt
def k27 : Con := ⟨a27, r27, p27, v27⟩
theorem h27 : Holds Try.prog 27 k27 := holds_of_M' (E := E0) follows_ok g27 eqTy_sound keyTy_sound at27 bd27 (by kernel_rfl) m27 fun G' hlo hF hE => LsOK_kn (by rw [lo27]; exact .cons (loopV_ok hE hF hlo (LsOK_kn (by rw [lo27x0]; exact .nil)) (by kernel_rfl) (by kernel_rfl) sp27x0 (fun _ => rfl) (fun _ _ => rfl) (s27x0) big) (.nil))
noncomputable def c29 : Code := Try.f29.body.getD .skip
theorem at29 : Try.prog.funcs[29]? = some Try.f29 := by kernel_rfl
theorem bd29 : Try.f29.body = some c29 := by kernel_rfl
theorem cl29 : Callable Try.prog 29 := callable_of at29 (by kernel_rfl) (by kernel_rfl)
abbrev a29 : Ty := T19
abbrev r29 : Ty := T0
noncomputable def G29 : Ctx := Ctx.of [(22, .pure k22)]
theorem g29 : Sound Try.prog (G29) := sound_of (List.forall_mem_cons.2 ⟨⟨cl22, h22⟩, fun _ h => by cases h⟩)
noncomputable def b29x0 : Code := loopBody ((loopsOf (c29))[0]?)
theorem lo29x0 : loopsOf (b29x0) = [] := by kernel_rfl
abbrev cs29x0 : List Pat := [.slot 1 (.ptr 1), .box 1 [.pc T16, .pc tI, .pc tI, .pc tI, .pc tI]]
abbrev vs29x0 : List Pat := [.slot 3 (.pc tI)]
abbrev ps29x0 : List Pat := cs29x0 ++ vs29x0
def j29x0 : ZJ cs29x0 vs29x0 ps29x0 := ZA _ _
def sp29x0 : ZS cs29x0 vs29x0 ps29x0 := ZP _ _
abbrev wy29x0 : Ways := ⟨[(0, [])], [.slot 2 (.pc tI)], []⟩
abbrev wv29x0 : Ways := ⟨[(0, [])], [.slot 2 (.pc tI)], []⟩
def je29x0 : ZE cs29x0 wv29x0 wy29x0 := fun id => match id with | 0 => fun c y => y | _ => ZDf
def Z29x0 {α : Type} (l : RQ vs29x0 wv29x0 → α) (an : α → α → α) (c : ZD cs29x0) (v : ZD vs29x0) : α := bif (decide (v.1 ≤ (50 : Int))) then cl (r22).dflt (M22 ((c.2.1.1, (v.1, c.2.1.2.2)), ())) (fun u0 => bif (decide ((0 : Int) < ((u0.1.n : Nat) : Int))) then l (.out (.ret v)) else l (.next ((W (v.1 + (1 : Int))), ()))) (l .bad) else l (.out (.exit 0 ()))
theorem z29x0 (c : ZD cs29x0) (v : ZD vs29x0) : roundQ Try.prog E0 G29 0 17 [] ps29x0 wy29x0 b29x0 [] (j29x0 c v) = Z29x0 (fun r => .leaf (r.lift j29x0 je29x0 ZI ZI c)) .any c v := by kernel_rfl
def S29x0 (c : ZD cs29x0) (v : ZD vs29x0) : RQ vs29x0 wv29x0 := Z29x0 (fun r => r) (fun _ _ => .bad) c v
theorem s29x0 (c : ZD cs29x0) (v : ZD vs29x0) : detQ (roundQ Try.prog E0 G29 0 17 [] ps29x0 wy29x0 b29x0 [] (j29x0 c v)) = (S29x0 c v).lift j29x0 je29x0 ZI ZI c := by rw [z29x0]; unfold S29x0 Z29x0; simp only [detQ, lift_bad, dqs]
def L29x0 (c : ZD cs29x0) (v : ZD vs29x0) : LQ wv29x0 := iterQ (S29x0 c) big v
theorem lo29 : loopsOf (c29) = [.loop b29x0] := by kernel_rfl
noncomputable def l29 : List Loop := [.known (loopZ 0 [] ps29x0 fun x => spreadV wy29x0 je29x0 ZI ZI [] true (sp29x0 x).1 (L29x0 (sp29x0 x).1 (sp29x0 x).2) wy29x0.exits)]
def Q29 {α : Type} (l : Option (r29).den → α) (an : α → α → α) (x : (a29).den) : α := onExit (L29x0 ((), (x.1, ())) ((0 : Int), ())) 0 (fun u1 => l (some ((-1 : Int), ()))) (onRet (L29x0 ((), (x.1, ())) ((0 : Int), ())) (fun u2 => l (some u2)) (l none))
theorem q29 (x : (a29).den) : runFn Try.prog E0 G29 Try.f29 l29 a29 r29 x = Q29 .leaf .any x := by kernel_rfl
def M29 (x : (a29).den) : Option (r29).den := Q29 (fun r => r) (fun _ _ => none) x
theorem m29 (x : (a29).den) : (runFn Try.prog E0 G29 Try.f29 l29 a29 r29 x).sure = M29 x := by rw [q29]; unfold M29 Q29; simp only [Tree.sure, sus]
def p29 (x : (a29).den) : Bool := (M29 x).isSome
def v29 (x : (a29).den) : (r29).den := (M29 x).getD (r29).dflt
def k29 : Con := ⟨a29, r29, p29, v29⟩
theorem h29 : Holds Try.prog 29 k29 := holds_of_M' (E := E0) follows_ok g29 eqTy_sound keyTy_sound at29 bd29 (by kernel_rfl) m29 fun G' hlo hF hE => LsOK_kn (by rw [lo29]; exact .cons (loopV_ok hE hF hlo (LsOK_kn (by rw [lo29x0]; exact .nil)) (by kernel_rfl) (by kernel_rfl) sp29x0 (fun _ => rfl) (fun _ _ => rfl) (s29x0) big) (.nil))
abbrev T105 : Ty := (.cons T42 T1)
abbrev T106 : Ty := (.cons T12 T1)
abbrev T107 : Ty := (.cons T42 T79)
abbrev T108 : Ty := (.cons T42 T107)
abbrev T109 : Ty := (.agg T108)
abbrev T110 : Ty := (.cons T109 .nil)
abbrev T111 : Ty := (.cons T18 T110)
abbrev T112 : Ty := (.agg T15)
abbrev T113 : Ty := (.cons T112 .nil)
abbrev T114 : Ty := (.cons (.sl T0) T113)
abbrev T115 : Ty := (.fn T114 T3)
abbrev T116 : Ty := (.cons T115 .nil)
abbrev T117 : Ty := (.cons T16 T116)
abbrev T118 : Ty := (.cons T42 T117)
abbrev T119 : Ty := (.cons .bool T0)
abbrev T120 : Ty := (.cons tI T20)
noncomputable def c17 : Code := Try.f17.body.getD .skip
theorem at17 : Try.prog.funcs[17]? = some Try.f17 := by kernel_rfl
theorem bd17 : Try.f17.body = some c17 := by kernel_rfl
theorem cl17 : Callable Try.prog 17 := callable_of at17 (by kernel_rfl) (by kernel_rfl)
abbrev a17 : Ty := .nil
abbrev r17 : Ty := T3
noncomputable def G17 : Ctx := Ctx.of [(18, .pure k18), (19, .pure k19), (20, .pure k20), (23, .pure k23), (28, .pure k28), (36, .pure k36), (39, .pure k39), (40, .pure k40), (41, .pure k41), (43, .pure k43), (44, .pure k44), (48, .pure k48), (62, .pure k62)]
theorem g17 : Sound Try.prog (G17) := sound_of (List.forall_mem_cons.2 ⟨⟨cl18, h18⟩, List.forall_mem_cons.2 ⟨⟨cl19, h19⟩, List.forall_mem_cons.2 ⟨⟨cl20, h20⟩, List.forall_mem_cons.2 ⟨⟨cl23, h23⟩, List.forall_mem_cons.2 ⟨⟨cl28, h28⟩, List.forall_mem_cons.2 ⟨⟨cl36, h36⟩, List.forall_mem_cons.2 ⟨⟨cl39, h39⟩, List.forall_mem_cons.2 ⟨⟨cl40, h40⟩, List.forall_mem_cons.2 ⟨⟨cl41, h41⟩, List.forall_mem_cons.2 ⟨⟨cl43, h43⟩, List.forall_mem_cons.2 ⟨⟨cl44, h44⟩, List.forall_mem_cons.2 ⟨⟨cl48, h48⟩, List.forall_mem_cons.2 ⟨⟨cl62, h62⟩, fun _ h => by cases h⟩⟩⟩⟩⟩⟩⟩⟩⟩⟩⟩⟩⟩)
theorem lo17 : loopsOf (c17) = [] := by kernel_rfl
noncomputable def l17 : List Loop := []
def Q17 {α : Type} (l : Option (r17).den → α) (an : α → α → α) (x : (a17).den) : α := cl (r62).dflt (M62 ()) (fun u0 => cl (r18).dflt (M18 (u0.1, ((1 : Int), ()))) (fun u1 => cl (r62).dflt (M62 ()) (fun u2 => cl (r19).dflt (M19 (u0.1, ())) (fun u3 => cl (r62).dflt (M62 ()) (fun u4 => cl (r20).dflt (M20 (u0.1, ())) (fun u5 => cl (r62).dflt (M62 ()) (fun u6 => cl (r39).dflt (M39 (u0.1, ((0 : Int), ((0 : Int), ())))) (fun u7 => cl (r62).dflt (M62 ()) (fun u8 => cl (r36).dflt (M36 (u0.1, ((1 : Int), ((0 : Int), ())))) (fun u9 => cl (r62).dflt (M62 ()) (fun u10 => cl (r43).dflt (M43 (u0.1, ((0 : Int), ((3 : Int), ())))) (fun u11 => cl (r62).dflt (M62 ()) (fun u12 => cl (r40).dflt (M40 (u0.1, ())) (fun u13 => cl (r62).dflt (M62 ()) (fun u14 => cl (r28).dflt (M28 (u0.1, ())) (fun u15 => bif (!(decide (u1.2.1 = (0 : Int)))) then l (some (false, ())) else bif (!(decide (u3.2.1 = (0 : Int)))) then l (some (false, ())) else bif (!(decide (u5.2.1 = (0 : Int)))) then l (some (false, ())) else bif (!(decide (u7.2.1 = (0 : Int)))) then l (some (false, ())) else bif (!(decide (u9.2.1 = (0 : Int)))) then l (some (false, ())) else bif (!(decide (u11.2.1 = (0 : Int)))) then l (some (false, ())) else bif (!(decide (u13.2.2.1 = (0 : Int)))) then l (some (false, ())) else bif (!(decide (u15.2.1 = (0 : Int)))) then l (some (false, ())) else cl (r23).dflt (M23 (u1.1, ((⟨2, fun i => List.getD [((⟨2, fun i => List.getD [((3 : Int), ()), ((1 : Int), ())] i ((3 : Int), ())⟩ : Sl _), ()), ((⟨2, fun i => List.getD [((1 : Int), ()), ((3 : Int), ())] i ((1 : Int), ())⟩ : Sl _), ())] i ((⟨2, fun i => List.getD [((3 : Int), ()), ((1 : Int), ())] i ((3 : Int), ())⟩ : Sl _), ())⟩ : Sl _), ()))) (fun u16 => bif (!u16.1) then l (some (false, ())) else cl (r23).dflt (M23 (u3.1, ((⟨2, fun i => List.getD [((⟨2, fun i => List.getD [((1 : Int), ()), ((1 : Int), ())] i ((1 : Int), ())⟩ : Sl _), ()), ((⟨1, fun i => List.getD [((1 : Int), ())] i ((1 : Int), ())⟩ : Sl _), ())] i ((⟨2, fun i => List.getD [((1 : Int), ()), ((1 : Int), ())] i ((1 : Int), ())⟩ : Sl _), ())⟩ : Sl _), ()))) (fun u17 => bif (!u17.1) then l (some (false, ())) else cl (r23).dflt (M23 (u5.1, ((⟨2, fun i => List.getD [((⟨2, fun i => List.getD [((1 : Int), ()), ((1 : Int), ())] i ((1 : Int), ())⟩ : Sl _), ()), ((⟨2, fun i => List.getD [((2 : Int), ()), ((2 : Int), ())] i ((2 : Int), ())⟩ : Sl _), ())] i ((⟨2, fun i => List.getD [((1 : Int), ()), ((1 : Int), ())] i ((1 : Int), ())⟩ : Sl _), ())⟩ : Sl _), ()))) (fun u18 => bif (!u18.1) then l (some (false, ())) else cl (r41).dflt (M41 (u7.1, ((⟨2, fun i => List.getD [((⟨2, fun i => List.getD [((0 : Int), ()), ((0 : Int), ())] i ((0 : Int), ())⟩ : Sl _), ()), ((⟨3, fun i => List.getD [((0 : Int), ()), ((0 : Int), ()), ((0 : Int), ())] i ((0 : Int), ())⟩ : Sl _), ())] i ((⟨2, fun i => List.getD [((0 : Int), ()), ((0 : Int), ())] i ((0 : Int), ())⟩ : Sl _), ())⟩ : Sl _), ()))) (fun u19 => bif (!u19.1) then l (some (false, ())) else cl (r48).dflt (M48 ((20 : Int), ((21 : Int), ()))) (fun u20 => cl (r48).dflt (M48 ((50 : Int), ((52 : Int), ()))) (fun u21 => cl (r48).dflt (M48 ((74100 : Int), ((74300 : Int), ()))) (fun u22 => cl (r44).dflt (M44 (u20.1, (u21.1, (u22.1, ())))) (fun u23 => bif ((decide (u9.1.1 = u23.1.1)) && ((decide (u9.1.2.1 = u23.1.2.1)) && ((decide (u9.1.2.2.1 = u23.1.2.2.1)) && ((decide (u9.1.2.2.2.1 = u23.1.2.2.2.1)) && ((decide (u9.1.2.2.2.2.1 = u23.1.2.2.2.2.1)) && ((decide (u9.1.2.2.2.2.2.1 = u23.1.2.2.2.2.2.1)) && true)))))) then cl (r48).dflt (M48 ((25 : Int), ((39 : Int), ()))) (fun u24 => cl (r48).dflt (M48 ((46 : Int), ((59 : Int), ()))) (fun u25 => cl (r48).dflt (M48 ((74050 : Int), ((75050 : Int), ()))) (fun u26 => cl (r44).dflt (M44 (u24.1, (u25.1, (u26.1, ())))) (fun u27 => bif ((decide (u11.1.1 = u27.1.1)) && ((decide (u11.1.2.1 = u27.1.2.1)) && ((decide (u11.1.2.2.1 = u27.1.2.2.1)) && ((decide (u11.1.2.2.2.1 = u27.1.2.2.2.1)) && ((decide (u11.1.2.2.2.2.1 = u27.1.2.2.2.2.1)) && ((decide (u11.1.2.2.2.2.2.1 = u27.1.2.2.2.2.2.1)) && true)))))) then bif (decide (u13.1 = (2 : Int))) then cl (r41).dflt (M41 (u13.2.1, ((⟨3, fun i => List.getD [((⟨2, fun i => List.getD [((-1 : Int), ()), ((-1 : Int), ())] i ((-1 : Int), ())⟩ : Sl _), ()), ((⟨2, fun i => List.getD [((0 : Int), ()), ((1 : Int), ())] i ((0 : Int), ())⟩ : Sl _), ()), ((⟨1, fun i => List.getD [((0 : Int), ())] i ((0 : Int), ())⟩ : Sl _), ())] i ((⟨2, fun i => List.getD [((-1 : Int), ()), ((-1 : Int), ())] i ((-1 : Int), ())⟩ : Sl _), ())⟩ : Sl _), ()))) (fun u28 => bif u28.1 then l (some ((decide (u15.1 = (2 : Int))), ())) else l (some (false, ()))) (l none) else l (some (false, ())) else l (some (false, ()))) (l none)) (l none)) (l none)) (l none) else l (some (false, ()))) (l none)) (l none)) (l none)) (l none)) (l none)) (l none)) (l none)) (l none)) (l none)) (l none)) (l none)) (l none)) (l none)) (l none)) (l none)) (l none)) (l none)) (l none)) (l none)) (l none)) (l none)) (l none)) (l none)) (l none)
def Q17g (m18 : (a18).den → Option (r18).den) (m19 : (a19).den → Option (r19).den) (m20 : (a20).den → Option (r20).den) (m23 : (a23).den → Option (r23).den) (m28 : (a28).den → Option (r28).den) (m36 : (a36).den → Option (r36).den) (m39 : (a39).den → Option (r39).den) (m40 : (a40).den → Option (r40).den) (m41 : (a41).den → Option (r41).den) (m43 : (a43).den → Option (r43).den) (m44 : (a44).den → Option (r44).den) (m48 : (a48).den → Option (r48).den) (m62 : (a62).den → Option (r62).den) {α : Type} (l : Option (r17).den → α) (an : α → α → α) (x : (a17).den) : α := cl (r62).dflt (m62 ()) (fun u0 => cl (r18).dflt (m18 (u0.1, ((1 : Int), ()))) (fun u1 => cl (r62).dflt (m62 ()) (fun u2 => cl (r19).dflt (m19 (u0.1, ())) (fun u3 => cl (r62).dflt (m62 ()) (fun u4 => cl (r20).dflt (m20 (u0.1, ())) (fun u5 => cl (r62).dflt (m62 ()) (fun u6 => cl (r39).dflt (m39 (u0.1, ((0 : Int), ((0 : Int), ())))) (fun u7 => cl (r62).dflt (m62 ()) (fun u8 => cl (r36).dflt (m36 (u0.1, ((1 : Int), ((0 : Int), ())))) (fun u9 => cl (r62).dflt (m62 ()) (fun u10 => cl (r43).dflt (m43 (u0.1, ((0 : Int), ((3 : Int), ())))) (fun u11 => cl (r62).dflt (m62 ()) (fun u12 => cl (r40).dflt (m40 (u0.1, ())) (fun u13 => cl (r62).dflt (m62 ()) (fun u14 => cl (r28).dflt (m28 (u0.1, ())) (fun u15 => bif (!(decide (u1.2.1 = (0 : Int)))) then l (some (false, ())) else bif (!(decide (u3.2.1 = (0 : Int)))) then l (some (false, ())) else bif (!(decide (u5.2.1 = (0 : Int)))) then l (some (false, ())) else bif (!(decide (u7.2.1 = (0 : Int)))) then l (some (false, ())) else bif (!(decide (u9.2.1 = (0 : Int)))) then l (some (false, ())) else bif (!(decide (u11.2.1 = (0 : Int)))) then l (some (false, ())) else bif (!(decide (u13.2.2.1 = (0 : Int)))) then l (some (false, ())) else bif (!(decide (u15.2.1 = (0 : Int)))) then l (some (false, ())) else cl (r23).dflt (m23 (u1.1, ((⟨2, fun i => List.getD [((⟨2, fun i => List.getD [((3 : Int), ()), ((1 : Int), ())] i ((3 : Int), ())⟩ : Sl _), ()), ((⟨2, fun i => List.getD [((1 : Int), ()), ((3 : Int), ())] i ((1 : Int), ())⟩ : Sl _), ())] i ((⟨2, fun i => List.getD [((3 : Int), ()), ((1 : Int), ())] i ((3 : Int), ())⟩ : Sl _), ())⟩ : Sl _), ()))) (fun u16 => bif (!u16.1) then l (some (false, ())) else cl (r23).dflt (m23 (u3.1, ((⟨2, fun i => List.getD [((⟨2, fun i => List.getD [((1 : Int), ()), ((1 : Int), ())] i ((1 : Int), ())⟩ : Sl _), ()), ((⟨1, fun i => List.getD [((1 : Int), ())] i ((1 : Int), ())⟩ : Sl _), ())] i ((⟨2, fun i => List.getD [((1 : Int), ()), ((1 : Int), ())] i ((1 : Int), ())⟩ : Sl _), ())⟩ : Sl _), ()))) (fun u17 => bif (!u17.1) then l (some (false, ())) else cl (r23).dflt (m23 (u5.1, ((⟨2, fun i => List.getD [((⟨2, fun i => List.getD [((1 : Int), ()), ((1 : Int), ())] i ((1 : Int), ())⟩ : Sl _), ()), ((⟨2, fun i => List.getD [((2 : Int), ()), ((2 : Int), ())] i ((2 : Int), ())⟩ : Sl _), ())] i ((⟨2, fun i => List.getD [((1 : Int), ()), ((1 : Int), ())] i ((1 : Int), ())⟩ : Sl _), ())⟩ : Sl _), ()))) (fun u18 => bif (!u18.1) then l (some (false, ())) else cl (r41).dflt (m41 (u7.1, ((⟨2, fun i => List.getD [((⟨2, fun i => List.getD [((0 : Int), ()), ((0 : Int), ())] i ((0 : Int), ())⟩ : Sl _), ()), ((⟨3, fun i => List.getD [((0 : Int), ()), ((0 : Int), ()), ((0 : Int), ())] i ((0 : Int), ())⟩ : Sl _), ())] i ((⟨2, fun i => List.getD [((0 : Int), ()), ((0 : Int), ())] i ((0 : Int), ())⟩ : Sl _), ())⟩ : Sl _), ()))) (fun u19 => bif (!u19.1) then l (some (false, ())) else cl (r48).dflt (m48 ((20 : Int), ((21 : Int), ()))) (fun u20 => cl (r48).dflt (m48 ((50 : Int), ((52 : Int), ()))) (fun u21 => cl (r48).dflt (m48 ((74100 : Int), ((74300 : Int), ()))) (fun u22 => cl (r44).dflt (m44 (u20.1, (u21.1, (u22.1, ())))) (fun u23 => bif ((decide (u9.1.1 = u23.1.1)) && ((decide (u9.1.2.1 = u23.1.2.1)) && ((decide (u9.1.2.2.1 = u23.1.2.2.1)) && ((decide (u9.1.2.2.2.1 = u23.1.2.2.2.1)) && ((decide (u9.1.2.2.2.2.1 = u23.1.2.2.2.2.1)) && ((decide (u9.1.2.2.2.2.2.1 = u23.1.2.2.2.2.2.1)) && true)))))) then cl (r48).dflt (m48 ((25 : Int), ((39 : Int), ()))) (fun u24 => cl (r48).dflt (m48 ((46 : Int), ((59 : Int), ()))) (fun u25 => cl (r48).dflt (m48 ((74050 : Int), ((75050 : Int), ()))) (fun u26 => cl (r44).dflt (m44 (u24.1, (u25.1, (u26.1, ())))) (fun u27 => bif ((decide (u11.1.1 = u27.1.1)) && ((decide (u11.1.2.1 = u27.1.2.1)) && ((decide (u11.1.2.2.1 = u27.1.2.2.1)) && ((decide (u11.1.2.2.2.1 = u27.1.2.2.2.1)) && ((decide (u11.1.2.2.2.2.1 = u27.1.2.2.2.2.1)) && ((decide (u11.1.2.2.2.2.2.1 = u27.1.2.2.2.2.2.1)) && true)))))) then bif (decide (u13.1 = (2 : Int))) then cl (r41).dflt (m41 (u13.2.1, ((⟨3, fun i => List.getD [((⟨2, fun i => List.getD [((-1 : Int), ()), ((-1 : Int), ())] i ((-1 : Int), ())⟩ : Sl _), ()), ((⟨2, fun i => List.getD [((0 : Int), ()), ((1 : Int), ())] i ((0 : Int), ())⟩ : Sl _), ()), ((⟨1, fun i => List.getD [((0 : Int), ())] i ((0 : Int), ())⟩ : Sl _), ())] i ((⟨2, fun i => List.getD [((-1 : Int), ()), ((-1 : Int), ())] i ((-1 : Int), ())⟩ : Sl _), ())⟩ : Sl _), ()))) (fun u28 => bif u28.1 then l (some ((decide (u15.1 = (2 : Int))), ())) else l (some (false, ()))) (l none) else l (some (false, ())) else l (some (false, ()))) (l none)) (l none)) (l none)) (l none) else l (some (false, ()))) (l none)) (l none)) (l none)) (l none)) (l none)) (l none)) (l none)) (l none)) (l none)) (l none)) (l none)) (l none)) (l none)) (l none)) (l none)) (l none)) (l none)) (l none)) (l none)) (l none)) (l none)) (l none)) (l none)) (l none)
theorem q17g (m18 : (a18).den → Option (r18).den) (m19 : (a19).den → Option (r19).den) (m20 : (a20).den → Option (r20).den) (m23 : (a23).den → Option (r23).den) (m28 : (a28).den → Option (r28).den) (m36 : (a36).den → Option (r36).den) (m39 : (a39).den → Option (r39).den) (m40 : (a40).den → Option (r40).den) (m41 : (a41).den → Option (r41).den) (m43 : (a43).den → Option (r43).den) (m44 : (a44).den → Option (r44).den) (m48 : (a48).den → Option (r48).den) (m62 : (a62).den → Option (r62).den) (x : (a17).den) : runFn Try.prog E0 (Ctx.of [(18, .pure (conM (τa := a18) (τr := r18) m18)), (19, .pure (conM (τa := a19) (τr := r19) m19)), (20, .pure (conM (τa := a20) (τr := r20) m20)), (23, .pure (conM (τa := a23) (τr := r23) m23)), (28, .pure (conM (τa := a28) (τr := r28) m28)), (36, .pure (conM (τa := a36) (τr := r36) m36)), (39, .pure (conM (τa := a39) (τr := r39) m39)), (40, .pure (conM (τa := a40) (τr := r40) m40)), (41, .pure (conM (τa := a41) (τr := r41) m41)), (43, .pure (conM (τa := a43) (τr := r43) m43)), (44, .pure (conM (τa := a44) (τr := r44) m44)), (48, .pure (conM (τa := a48) (τr := r48) m48)), (62, .pure (conM (τa := a62) (τr := r62) m62))]) Try.f17 l17 a17 r17 x = Q17g m18 m19 m20 m23 m28 m36 m39 m40 m41 m43 m44 m48 m62 .leaf .any x := by kernel_rfl
theorem q17 (x : (a17).den) : runFn Try.prog E0 G17 Try.f17 l17 a17 r17 x = Q17 .leaf .any x := q17g M18 M19 M20 M23 M28 M36 M39 M40 M41 M43 M44 M48 M62 x
def M17 (x : (a17).den) : Option (r17).den := Q17 (fun r => r) (fun _ _ => none) x
theorem m17 (x : (a17).den) : (runFn Try.prog E0 G17 Try.f17 l17 a17 r17 x).sure = M17 x := by rw [q17]; unfold M17 Q17; simp only [Tree.sure, sus]
def p17 (x : (a17).den) : Bool := (M17 x).isSome
def v17 (x : (a17).den) : (r17).den := (M17 x).getD (r17).dflt
def k17 : Con := ⟨a17, r17, p17, v17⟩
theorem h17 : Holds Try.prog 17 k17 := holds_of_M' (E := E0) follows_ok g17 eqTy_sound keyTy_sound at17 bd17 (by kernel_rfl) m17 fun G' hlo hF hE => LsOK_kn (by rw [lo17]; exact .nil)
noncomputable def c4 : Code := Try.f4.body.getD .skip
theorem at4 : Try.prog.funcs[4]? = some Try.f4 := by kernel_rfl
theorem bd4 : Try.f4.body = some c4 := by kernel_rfl
theorem cl4 : Callable Try.prog 4 := callable_of at4 (by kernel_rfl) (by kernel_rfl)
abbrev a4 : Ty := T19
abbrev r4 : Ty := T3
noncomputable def G4 : Ctx := Ctx.of [(16, .pure k16), (17, .pure k17), (21, .pure k21), (27, .pure k27), (28, .pure k28), (29, .pure k29)]
theorem g4 : Sound Try.prog (G4) := sound_of (List.forall_mem_cons.2 ⟨⟨cl16, h16⟩, List.forall_mem_cons.2 ⟨⟨cl17, h17⟩, List.forall_mem_cons.2 ⟨⟨cl21, h21⟩, List.forall_mem_cons.2 ⟨⟨cl27, h27⟩, List.forall_mem_cons.2 ⟨⟨cl28, h28⟩, List.forall_mem_cons.2 ⟨⟨cl29, h29⟩, fun _ h => by cases h⟩⟩⟩⟩⟩⟩)
theorem lo4 : loopsOf (c4) = [] := by kernel_rfl
noncomputable def l4 : List Loop := []
def Q4 {α : Type} (l : Option (r4).den → α) (an : α → α → α) (x : (a4).den) : α := cl (r16).dflt (M16 (x.1, ())) (fun u0 => bif (!u0.1) then cl (r17).dflt (M17 ()) (fun u1 => l (some u1)) (l none) else cl (r21).dflt (M21 (x.1, ())) (fun u2 => bif u2.1 then cl (r27).dflt (M27 (x.1, ())) (fun u3 => bif (!u3.1) then cl (r17).dflt (M17 ()) (fun u4 => l (some u4)) (l none) else cl (r28).dflt (M28 (x.1, ())) (fun u5 => cl (r21).dflt (M21 (x.1, ())) (fun u6 => bif (!u2.1) then bif (decide (u5.2.1 = (2 : Int))) then bif (decide (u5.1 = (0 : Int))) then cl (r17).dflt (M17 ()) (fun u7 => l (some u7)) (l none) else l (some (false, ())) else l (some (false, ())) else cl (r29).dflt (M29 (x.1, ())) (fun u8 => bif (decide (u8.1 < (0 : Int))) then bif (decide (u5.2.1 = (5 : Int))) then bif (decide (u5.1 = (0 : Int))) then cl (r17).dflt (M17 ()) (fun u9 => l (some u9)) (l none) else l (some (false, ())) else l (some (false, ())) else bif (decide (u5.2.1 = (0 : Int))) then bif (decide (u5.1 = u8.1)) then cl (r17).dflt (M17 ()) (fun u10 => l (some u10)) (l none) else l (some (false, ())) else l (some (false, ()))) (l none)) (l none)) (l none)) (l none) else cl (r28).dflt (M28 (x.1, ())) (fun u11 => cl (r21).dflt (M21 (x.1, ())) (fun u12 => bif (!u2.1) then bif (decide (u11.2.1 = (2 : Int))) then bif (decide (u11.1 = (0 : Int))) then cl (r17).dflt (M17 ()) (fun u13 => l (some u13)) (l none) else l (some (false, ())) else l (some (false, ())) else cl (r29).dflt (M29 (x.1, ())) (fun u14 => bif (decide (u14.1 < (0 : Int))) then bif (decide (u11.2.1 = (5 : Int))) then bif (decide (u11.1 = (0 : Int))) then cl (r17).dflt (M17 ()) (fun u15 => l (some u15)) (l none) else l (some (false, ())) else l (some (false, ())) else bif (decide (u11.2.1 = (0 : Int))) then bif (decide (u11.1 = u14.1)) then cl (r17).dflt (M17 ()) (fun u16 => l (some u16)) (l none) else l (some (false, ())) else l (some (false, ()))) (l none)) (l none)) (l none)) (l none)) (l none)
theorem q4 (x : (a4).den) : runFn Try.prog E0 G4 Try.f4 l4 a4 r4 x = Q4 .leaf .any x := by kernel_rfl
def M4 (x : (a4).den) : Option (r4).den := Q4 (fun r => r) (fun _ _ => none) x
theorem m4 (x : (a4).den) : (runFn Try.prog E0 G4 Try.f4 l4 a4 r4 x).sure = M4 x := by rw [q4]; unfold M4 Q4; simp only [Tree.sure, sus]
def p4 (x : (a4).den) : Bool := (M4 x).isSome
def v4 (x : (a4).den) : (r4).den := (M4 x).getD (r4).dflt
def k4 : Con := ⟨a4, r4, p4, v4⟩
theorem h4 : Holds Try.prog 4 k4 := holds_of_M' (E := E0) follows_ok g4 eqTy_sound keyTy_sound at4 bd4 (by kernel_rfl) m4 fun G' hlo hF hE => LsOK_kn (by rw [lo4]; exact .nil)
abbrev T121 : Ty := (.cons tI T6)
abbrev T122 : Ty := (.cons T18 T121)
abbrev T123 : Ty := (.cons T109 T5)
abbrev T124 : Ty := (.cons T18 T123)
end Go.Dm
