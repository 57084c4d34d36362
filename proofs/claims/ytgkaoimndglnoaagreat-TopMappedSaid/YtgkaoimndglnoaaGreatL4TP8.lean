/- What is known of a reading, and what it shows in truth. -/
import Derived.Test.YtgkaoimndglnoaaGreatL4TP7
set_option linter.unusedVariables false
set_option linter.unusedSimpArgs false
namespace Go.Dm
set_option maxRecDepth 100000
abbrev rdT:Type:=Int×Int×Int×Int×Int×Int×Int×Int×Int×Int×Unit
abbrev trT:Type:=Int×Int×Int×Int×Int×Int×Int×Unit
abbrev coT:Type:=Int×Int×Int×Int×Int×Int×Int×Int×Unit
def mer (r:rdT):Int:=r.2.2.2.1
def rdB (r:rdT):Bool:=iQ r.1 0 400 && (iQ r.2.1 0 1439 && (iQ r.2.2.1 1 3 && (iQ r.2.2.2.1 40000 90000 && (Pb r.2.2.2.2.1 r.2.2.2.2.2.1 (-300) 500 && (Pb r.2.2.2.2.2.2.1 r.2.2.2.2.2.2.2.1 (-300) 500 && Pb r.2.2.2.2.2.2.2.2.1 r.2.2.2.2.2.2.2.2.2.1 (-300) 500)))))
structure aVq (r:rdT):Prop where
 day:0<=r.1/\r.1<=400
 mer:40000<=r.2.2.2.1/\r.2.2.2.1<=90000
 aai:-300<=r.2.2.2.2.1/\r.2.2.2.2.1<=r.2.2.2.2.2.1/\r.2.2.2.2.2.1<=500
 dry:-300<=r.2.2.2.2.2.2.1/\r.2.2.2.2.2.2.1<=r.2.2.2.2.2.2.2.1/\r.2.2.2.2.2.2.2.1<=500
 wet:-300<=r.2.2.2.2.2.2.2.2.1/\r.2.2.2.2.2.2.2.2.1<=r.2.2.2.2.2.2.2.2.2.1/\r.2.2.2.2.2.2.2.2.2.1<=500
theorem aYj {r:rdT} (h:rdB r=true):aVq r:=by
 unfold rdB at h
 simp only [Bool.and_eq_true] at h
 obtain ⟨a1,a2,a3,a4,a5,a6,a7⟩:=h
 exact ⟨rW a1,rW a4,acq a5,acq a6,acq a7⟩
theorem aYk (r:rdT):M68 (no_index (r,()))=some (rdB r,()):=by
 unfold M68 Q68 rdB
 refine (cI (KB r.1 0 400)).trans ?_
 cases iQ r.1 0 400 with
 | false=>rfl
 | true =>
 refine (cn rfl).trans ?_
 refine (cI (KB r.2.1 0 1439)).trans ?_
 cases iQ r.2.1 0 1439 with
 | false=>rfl
 | true =>
 refine (cn rfl).trans ?_
 refine (cI (KB r.2.2.1 1 3)).trans ?_
 cases iQ r.2.2.1 1 3 with
 | false=>rfl
 | true =>
 refine (cn rfl).trans ?_
 refine (cI (KB r.2.2.2.1 40000 90000)).trans ?_
 cases iQ r.2.2.2.1 40000 90000 with
 | false=>rfl
 | true =>
 refine (cn rfl).trans ?_
 refine (cI (acu r.2.2.2.2.1 r.2.2.2.2.2.1 (-300) 500)).trans ?_
 cases Pb r.2.2.2.2.1 r.2.2.2.2.2.1 (-300) 500 with
 | false=>rfl
 | true =>
 refine (cn rfl).trans ?_
 refine (cI (acu r.2.2.2.2.2.2.1 r.2.2.2.2.2.2.2.1 (-300) 500)).trans ?_
 cases Pb r.2.2.2.2.2.2.1 r.2.2.2.2.2.2.2.1 (-300) 500 with
 | false=>rfl
 | true =>
 refine (cn rfl).trans ?_
 exact cI (acu r.2.2.2.2.2.2.2.2.1 r.2.2.2.2.2.2.2.2.2.1 (-300) 500)
theorem acT (l h:Int):OQ (no_index ((l,(h,())),()))=some (Pb l h (-300) 500,()):=by
 unfold OQ asG
 exact cI (acB l h (-300) 500)
theorem aYl (r:rdT):M66 (no_index (r,()))=some (rdB r,()):=by
 unfold M66 Q66 rdB
 refine (cI (ale r.1)).trans ?_
 cases iQ r.1 0 400 with
 | false=>rfl
 | true =>
 refine (cn rfl).trans ?_
 refine (cI (acA r.2.1 0 1439)).trans ?_
 cases iQ r.2.1 0 1439 with
 | false=>rfl
 | true =>
 refine (cn rfl).trans ?_
 unfold iQ
 by_cases c1:(1:Int)<=r.2.2.1
 rotate_left
 ·refine (cR (decide_eq_false c1)).trans ?_
  rw [decide_eq_false (p:=1<=r.2.2.1/\r.2.2.1<=3) (fun h=>c1 h.1)]; rfl
 refine (cn (decide_eq_true c1)).trans ?_
 by_cases c2:r.2.2.1<=(3:Int)
 rotate_left
 ·refine (cR (decide_eq_false c2)).trans ?_
  rw [decide_eq_false (p:=1<=r.2.2.1/\r.2.2.1<=3) (fun h=>c2 h.2)]; rfl
 refine (cn (decide_eq_true c2)).trans ?_
 rw [decide_eq_true (p:=1<=r.2.2.1/\r.2.2.1<=3) ⟨c1,c2⟩]
 refine (cI (acA r.2.2.2.1 40000 90000)).trans ?_
 show (bif iQ r.2.2.2.1 40000 90000 then _ else _)=some ((true && (true && (true && (iQ r.2.2.2.1 40000 90000 && _)))),())
 cases iQ r.2.2.2.1 40000 90000 with
 | false=>rfl
 | true =>
 refine (cn rfl).trans ?_
 refine (cI (acT r.2.2.2.2.1 r.2.2.2.2.2.1)).trans ?_
 cases Pb r.2.2.2.2.1 r.2.2.2.2.2.1 (-300) 500 with
 | false=>rfl
 | true =>
 refine (cn rfl).trans ?_
 refine (cI (acT r.2.2.2.2.2.2.1 r.2.2.2.2.2.2.2.1)).trans ?_
 cases Pb r.2.2.2.2.2.2.1 r.2.2.2.2.2.2.2.1 (-300) 500 with
 | false=>rfl
 | true =>
 refine (cn rfl).trans ?_
 exact cI (acT r.2.2.2.2.2.2.2.2.1 r.2.2.2.2.2.2.2.2.2.1)
structure TrR (t:trT):Prop where
 idx:-2000<=t.1/\t.1<=2000
 err:-200<=t.2.1/\t.2.1<=200
 gra:-3000<=t.2.2.1/\t.2.2.1<=3000
 hei:0<=t.2.2.2.1/\t.2.2.2.1<=3000
 aai:-300<=t.2.2.2.2.1/\t.2.2.2.2.1<=500
 dry:-300<=t.2.2.2.2.2.1/\t.2.2.2.2.2.1<=500
 wet:-300<=t.2.2.2.2.2.2.1/\t.2.2.2.2.2.2.1<=500
def cor (t:trT) (m:Int):coT:=(t.1,t.2.1,t.2.2.1,t.2.2.2.1,t.2.2.2.2.1,t.2.2.2.2.2.1,t.2.2.2.2.2.2.1,m,())
def acr (m:Int) (t:trT):Int:=aDj m t.1 t.2.1 t.2.2.1 t.2.2.2.2.1
def biH (m:Int) (t:trT):Int:=ac3 (acr m t) t.2.2.2.1 t.2.2.2.2.2.1
theorem aFK {m:Int} {t:trT} (hm:40000<=m/\m<=90000) (ht:TrR t):36700<=acr m t/\acr m t<=93300:=by
 have h1:=ht.idx
 have h2:=ht.err
 have b1:=acU (m:=m - t.1 - t.2.1) (by omega) ht.aai
 exact (acV b1.2.2 ht.gra).2.2
theorem aVt {m:Int} {t:trT} (hm:40000<=m/\m<=90000) (ht:TrR t):Xo (no_index (cor t m,()))=some (acr m t,()):=by
 have h1:=ht.idx
 have h2:=ht.err
 have b1:=acU (m:=m - t.1 - t.2.1) (by omega) ht.aai
 have b2:=acV b1.2.2 ht.gra
 unfold Xo am0
 refine (cI (x:=(m - t.1 - t.2.1,())) ?_).trans ?_
 ·show some (W (W (m - t.1) - t.2.1),())=_
  rw [eU (n:=m - t.1) ⟨by omega,by omega⟩,eU ⟨by omega,by omega⟩]
 refine (cI (x:=(abh (m - t.1 - t.2.1) t.2.2.2.2.1,())) ?_).trans ?_
 ·unfold Xl amV
  have e1:W (W ((m - t.1 - t.2.1) * t.2.2.2.2.1) * 163)=(m - t.1 - t.2.1) * t.2.2.2.2.1 * 163:=by rw [eU (n:=(m - t.1 - t.2.1) * t.2.2.2.2.1) ⟨by omega,by omega⟩,eU ⟨by omega,by omega⟩]
  refine (cI (x:=((m - t.1 - t.2.1) * t.2.2.2.2.1 * 163 / 10000000,())) ?_).trans ?_
  ·show FF (W (W ((m - t.1 - t.2.1) * t.2.2.2.2.1) * 163),(10000000,()))=_
   rw [e1]
   exact acs ⟨by omega,by omega⟩ (by omega)
  ·show some (W ((m - t.1 - t.2.1) - (m - t.1 - t.2.1) * t.2.2.2.2.1 * 163 / 10000000),())=_
   rw [eU ⟨by omega,by omega⟩]; rfl
 refine (cI (x:=(acr m t,())) ?_).trans rfl
 ·unfold Xm amX
  have e1:W (abh (m - t.1 - t.2.1) t.2.2.2.2.1 * t.2.2.1)=abh (m - t.1 - t.2.1) t.2.2.2.2.1 * t.2.2.1:=eU ⟨by omega,by omega⟩
  refine (cI (x:=(abh (m - t.1 - t.2.1) t.2.2.2.2.1 * t.2.2.1 / 1000000,())) ?_).trans ?_
  ·show FF (W (abh (m - t.1 - t.2.1) t.2.2.2.2.1 * t.2.2.1),(1000000,()))=_
   rw [e1]
   exact acs ⟨by omega,by omega⟩ (by omega)
  ·show some (W (abh (m - t.1 - t.2.1) t.2.2.2.2.1 + abh (m - t.1 - t.2.1) t.2.2.2.2.1 * t.2.2.1 / 1000000),())=_
   rw [eU ⟨by omega,by omega⟩]; rfl
theorem aVu {m h:Int} {t:trT} (hh:36700<=h/\h<=93300) (ht:TrR t):Xp (no_index (cor t m,(h,())))=some (ac3 h t.2.2.2.1 t.2.2.2.2.2.1,()):=by
 have b:=acG hh ht.hei ht.dry
 have hd:=ht.dry
 unfold Xp am2
 have e1:W (W (h * t.2.2.2.1) * 10)=h * t.2.2.2.1 * 10:=by rw [eU (n:=h * t.2.2.2.1) ⟨by omega,by omega⟩,eU ⟨by omega,by omega⟩]
 have e2:W (79900 + W (29 * t.2.2.2.2.2.1))=79900 + 29 * t.2.2.2.2.2.1:=by rw [eU (n:=29 * t.2.2.2.2.2.1) ⟨by omega,by omega⟩,eU ⟨by omega,by omega⟩]
 refine (cI (x:=(h * t.2.2.2.1 * 10 / (79900 + 29 * t.2.2.2.2.2.1),())) ?_).trans ?_
 ·show FF (W (W (h * t.2.2.2.1) * 10),(W (79900 + W (29 * t.2.2.2.2.2.1)),()))=_
  rw [e1,e2]
  exact acs ⟨by omega,by omega⟩ b.2.2.1
 ·show some (W (h + h * t.2.2.2.1 * 10 / (79900 + 29 * t.2.2.2.2.2.1)),())=_
  rw [eU ⟨by omega,by omega⟩]; rfl
def hk (k:Nat):Bool:=match TB ((k:Int) - 300,()) with
 | some (h,_)=>decide ((1:Int)<=(show Int from h)/\(show Int from h)<=10000)
 | none=>false
theorem atW:(List.range 801).all hk=true:=by kernel_rfl
theorem aVv {t:Int} (ht:-300<=t/\t<=500):∃ h:Int,TB (no_index (t,()))=some (h,())/\1<=h/\h<=10000:=by
 have:=iR atW (j:=(t + 300).toNat) (by omega)
 unfold hk at this
 rw [show (((t + 300).toNat:Nat):Int) - 300=t by omega] at this
 cases hm:TB (t,()) with
 | none=>rw [hm] at this; cases this
 | some h =>
  rw [hm] at this
  obtain ⟨h,⟨⟩⟩:=h
  exact ⟨h,rfl,of_decide_eq_true this⟩
theorem aYn (n:Int):-9223372036854775808<=W n/\W n<=9223372036854775807:=by
 unfold W
 rw [IntKind.wrap_i64]
 omega
end Go.Dm
