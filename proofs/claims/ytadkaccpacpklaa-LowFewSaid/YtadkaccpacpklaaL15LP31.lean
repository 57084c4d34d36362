/- LowFew. -/
import Derived.Test.YtadkaccpacpklaaL15LP29
import Derived.Test.YtadkaccpacpklaaL15LP30
set_option linter.unusedVariables false
set_option linter.unusedSimpArgs false
namespace Go.Dm
set_option maxRecDepth 100000
open Go.Low
variable {s:tS.den} {A X Y D:cT}
def aag (s:tS.den) (b g:Int):tS.den:=(s.1,(s.2.1,(s.2.2.1,(b,(g,())))))
theorem apV (ho:Io s=true) {b g:Int} (hb:0<=b/\b<=12) (hg:0<=g/\g<=12):Io (aag s b g)=true:=by
 obtain ⟨h1,h2,h3,h4,h5,h6⟩:=aGE ho
 refine aTL (fun t ht=>?_) h2 h3 h4 hb hg
 obtain ⟨a,b,c,d⟩:=h1 t ht
 refine ⟨?_,b,c,d⟩
 cases t with
 | zero=>exact a
 | succ t=>exact a
theorem aiP {L:LL} {b g:Int} (h:wD (cB s) L) (hb:(eP L:Int)<=b) (hg:(fc L:Int)<=g):wD (cB (aag s b g)) L:=
 ⟨h.len,h.first,h.row,hb,hg,h.ch⟩
theorem aoE {L:LL} {b g:Int} (h:wD (cB (aag s b g)) L) (hb:b<=OC s) (hg:g<=Sa s):wD (cB s) L:=
 ⟨h.len,h.first,h.row,Int.le_trans h.born hb,Int.le_trans h.gone hg,h.ch⟩
theorem au9 (ho:Io s=true) (ha:Dg s=true):Yl (no_index (s,()))=some ((0:Int),((5:Int),())):=by
 have hs:=qP ho
 have h:=auH ho (abi hs).1 (abi hs).2
 have hc:=afh hs
 rw [ha] at hc
 cases e:fB (Yn s) s.1.n with
 | none=>rw [e] at h; exact h
 | some k=>rw [e] at hc; cases hc
theorem ava (ho:Io s=true) (ha:Dg s=false):∃ k:Int,Yl (no_index (s,()))=some (k,((0:Int),())):=by
 have hs:=qP ho
 have h:=auH ho (abi hs).1 (abi hs).2
 have hc:=afh hs
 rw [ha] at hc
 cases e:fB (Yn s) s.1.n with
 | none=>rw [e] at hc; cases hc
 | some k=>rw [e] at h; exact ⟨_,h⟩
theorem af9 (hs:(cB s).Ok) {rows:cT} (hL:aW rows∈links (cB s)):Rs s rows=true:=by
 have hr:=aia hs hL
 have hI:=(tX hs).1 hL
 have xU:0 < s.1.n:=hs.n1
 unfold Rs gM Xe
 rw [Bool.and_eq_true,Bool.and_eq_true]
 refine ⟨⟨decide_eq_true (by rw [hr.n]),JL fun t ht=>decide_eq_true (by rw [hr.k t (by rw [<- hr.n]; exact ht)])⟩,JL fun t ht=>JL fun i hi=>?_⟩
 have ht':t < s.1.n:=by rw [<- hr.n]; exact ht
 have hi':i < (s.1.g t).2.1.n:=by rw [<- hr.k t ht']; exact hi
 unfold VX
 cases t with
 | zero =>
  have h0:(show Int from ((rows.g 0).1.g i).1) = -1:=by
   rw [<- OO ht hi]
   unfold qR
   rw [hI.first]
   simp only [first,List.getD_eq_getElem?_getD,List.getElem?_replicate]
   rw [if_pos (show i < (cB s).k 0 from hi')]; rfl
  exact aeb (by omega) (show _<=((0:Nat):Int) - 1 by omega)
 | succ u =>
  have h1:=hI.afg ht' hi'
  rw [OO ht hi] at h1
  have h2:(show Int from ((rows.g (u + 1)).1.g i).1) = -1\/0<=(show Int from ((rows.g (u + 1)).1.g i).1)/\(show Int from ((rows.g (u + 1)).1.g i).1).toNat < (s.1.g u).2.1.n:=h1.imp id fun h=>⟨h.1,h.2.1⟩
  exact aeb (by omega) (show _<=(((s.1.g u).2.1.n:Nat):Int) - 1 by omega)
theorem aiS (hs:(cB s).Ok) {rows:cT} (hr:PC s rows):vB rows:=by
 have WM:=eF hs
 have RI:=hr.n
 exact ⟨by omega,fun t ht=>by have:=dN hs (t:=t) (by omega); rw [hr.k t (by omega)]; omega⟩
theorem acj (hs:(cB s).Ok) {rows:cT} (hr:PC s rows):eP (aW rows)<=9/\fc (aW rows)<=9/\0 < rows.n/\rows.n<=4/\∀ t,t < rows.n->(rows.g t).1.n<=3:=by
 have WM:=eF hs
 have xU:0 < s.1.n:=hs.n1
 have RI:=hr.n
 have hk:∀ t,t < rows.n->(rows.g t).1.n<=3:=fun t ht=>by rw [hr.k t (by omega)]; exact dN hs (by omega)
 have hb:=BO hk (rows.n - 1) (by omega)
 have hg:=BP hk (rows.n - 1) (by omega)
 rw [List.take_of_length_le (by rw [dI]; omega)] at hb hg
 exact ⟨by omega,by omega,by omega,by omega,hk⟩
theorem aed (ho:Io s=true) {rows:cT} (hL:aW rows∈links (cB s)) (hmin:∀ L∈links (cB s),eP (aW rows)<=eP L) {g h:Option (Ty.den (.cons .bool .nil))} :
  cl (r46).dflt (Yl ((s.1,(s.2.1,(s.2.2.1,(((eP (aW rows):Nat):Int),(((fc (aW rows):Nat):Int),()))))),())) (fun PB=>bif (!(decide (PB.2.1=(5:Int)))) then some (false,()) else bif (decide ((0:Int) < ((eP (aW rows):Nat):Int))) then cl (r46).dflt (Yl ((s.1,(s.2.1,(s.2.2.1,((W (((eP (aW rows):Nat):Int) - (1:Int))),s.2.2.2.2)))),())) (fun u16=>bif (decide (u16.2.1=(0:Int))) then cl (nQ).dflt (qf ()) (fun Wf=>some Wf) none else some (false,())) g else cl (nQ).dflt (qf ()) (fun VP=>some VP) none) h=some (true,()):=by
 have hs:=qP ho
 have hr:=aia hs hL
 have hI:=(tX hs).1 hL
 obtain ⟨q1,q2,_⟩:=acj hs hr
 have gn:0<=Sa s/\Sa s<=12:=hs.gn
 have bn:0<=OC s/\OC s<=12:=hs.bn
 have ho1:Io (aag s ((eP (aW rows):Nat):Int) ((fc (aW rows):Nat):Int))=true:=apV ho (by omega) (by omega)
 have ha1:Dg (aag s ((eP (aW rows):Nat):Int) ((fc (aW rows):Nat):Int))=true:=Ki.2 ⟨_,(tX (qP ho1)).2 (aiP hI (Int.le_refl _) (Int.le_refl _))⟩
 refine (aK (au9 ho1 ha1)).trans ?_
 refine (aR rfl).trans ?_
 by_cases c:(0:Int) < ((eP (aW rows):Nat):Int)
 ·refine (aq (decide_eq_true c)).trans ?_
  have hb:(eP (aW rows):Int)<=OC s:=hI.born
  have w:W (((eP (aW rows):Nat):Int) - 1)=((eP (aW rows):Nat):Int) - 1:=gQ ⟨by omega,by omega⟩
  have Jl:Io (aag s (((eP (aW rows):Nat):Int) - 1) (Sa s))=true:=apV ho (by omega) gn
  have ha2:Dg (aag s (((eP (aW rows):Nat):Int) - 1) (Sa s))=false:=by
   cases e:Dg (aag s (((eP (aW rows):Nat):Int) - 1) (Sa s)) with
   | false=>rfl
   | true =>
    obtain ⟨L,h1⟩:=Ki.1 e
    have h2:=(tX (qP Jl)).1 h1
    have h3:=hmin L ((tX hs).2 (aoE h2 (by omega) (Int.le_refl _)))
    have h4:(eP L:Int)<=((eP (aW rows):Nat):Int) - 1:=h2.born
    omega
  obtain ⟨k,hk⟩:=ava Jl ha2
  have hk':Yl ((s.1,(s.2.1,(s.2.2.1,((W (((eP (aW rows):Nat):Int) - (1:Int))),s.2.2.2.2)))),())=some (k,((0:Int),())):=by rw [w]; exact hk
  refine (aK hk').trans ?_
  refine (aq rfl).trans ?_
  exact aK eZ
 ·exact (aR (decide_eq_false c)).trans (aK eZ)
theorem aoT (s:tS.den) (A X Y D:cT):M15 (s,(trT A X Y D,()))=some (true,()):=by
 unfold M15 Q15
 obtain ⟨b,h1,h2⟩:=aau (s:=s)
 refine (aK h1).trans ?_
 cases b with
 | false=>exact (aq rfl).trans (aK eZ)
 | true =>
 refine (aR rfl).trans ?_
 obtain ⟨hn,hk⟩:=h2 rfl
 have hn':s.1.n<=1000:=by omega
 have hk':∀ t,t < s.1.n->(s.1.g t).2.1.n<=1000:=fun t ht=>by have:=hk t ht; omega
 obtain ⟨b2,h3,h4⟩:=aI0 (A:=A) (X:=X) (Y:=Y) (D:=D)
 refine (aK h3).trans ?_
 cases b2 with
 | false=>exact (aq rfl).trans (aK eZ)
 | true =>
 refine (aR rfl).trans ?_
 obtain ⟨hA,hX,hY,hD⟩:=h4 rfl
 refine (aK (JM hn' hk')).trans ?_
 cases ho:Io s with
 | false=>exact (aq rfl).trans (aK eZ)
 | true =>
 refine (aR rfl).trans ?_
 refine (aK (aI3 hA hX hY hD hk')).trans ?_
 cases htb:LS s A X Y D with
 | false=>exact (aq rfl).trans (aK eZ)
 | true =>
 refine (aR rfl).trans ?_
 have h52:=aI7 (s:=s) hn' hk' hA hX hY hD
 rw [ho,htb] at h52
 have hs:=qP ho
 have WM:=eF hs
 have xU:0 < s.1.n:=hs.n1
 have htr:=VY htb
 have a0:(0:Int)<=0/\(0:Int) < ((s.1.n:Nat):Int):=by omega
 cases ha:Dg s with
 | false =>
  have es:Jc s true=7:=by unfold Jc; rw [ho,ha]; rfl
  have s40:=aos (s:=s) hn' hk' (by rw [es]; decide)
  rw [es] at s40
  refine (aK s40).trans ?_
  refine (aK h52).trans ?_
  refine (aR rfl).trans ?_
  cases hfit:ati s A X Y D with
  | false=>exact (aR rfl).trans ((aq rfl).trans ((aq rfl).trans (aK eZ)))
  | true =>
   have tru:=ab8 hs htr (by rw [<- ayX htr]; exact hfit)
   rw [afN hs tru] at ha
   cases ha
 | true =>
  obtain ⟨rows,m40,hrows⟩:=aBC ho ha
  have hne:links (cB s)≠[]:=by
   obtain ⟨L,hL⟩:=Ki.1 ha
   exact List.ne_nil_of_mem hL
  have hL:aW rows∈links (cB s):=by rw [hrows]; exact abZ hne
  have hmin:∀ L∈links (cB s),eP (aW rows)<=eP L:=fun L h=>by rw [hrows]; exact afX h
  have hr:=aia hs hL
  have hI:=(tX hs).1 hL
  have Ml:=dN hs xU
  obtain ⟨q1,q2,q3,q4,q5⟩:=acj hs hr
  obtain ⟨g1,g2,g3,g4,g5⟩:=acj hs htr.a
  have m60:=aI2 (s:=s) (aiS hs hr) hk'
  rw [af9 hs hL] at m60
  have wb:(((s.1.g 0).2.1.n + eP (aW rows):Nat):Int)=W ((((s.1.g 0).2.1.n:Nat):Int) + ((eP (aW rows):Nat):Int)):=by rw [gQ ⟨by omega,by omega⟩]; omega
  have wa:W ((((s.1.g 0).2.1.n:Nat):Int) + ((eP (aW A):Nat):Int))=(((s.1.g 0).2.1.n + eP (aW A):Nat):Int):=by rw [gQ ⟨by omega,by omega⟩]; omega
  have Sw:¬ (OC s < ((eP (aW rows):Nat):Int)):=Int.not_lt.2 hI.born
  have hg1:¬ (Sa s < ((fc (aW rows):Nat):Int)):=Int.not_lt.2 hI.gone
  refine (aK m40).trans ?_
  refine (aK h52).trans ?_
  refine (aR rfl).trans ?_
  cases hfit:ati s A X Y D with
  | false =>
   refine (aR rfl).trans ((aR rfl).trans ?_)
   refine (aK m60).trans ?_
   refine (aR rfl).trans ?_
   refine (aK (ao9 q3 q4 q5)).trans ?_
   refine (aK (apa q3 q4 q5)).trans ?_
   refine (aq (decide_eq_true a0)).trans ?_
   refine (aR (nb wb)).trans ?_
   refine (aR (decide_eq_false Sw)).trans ?_
   refine (aR (decide_eq_false hg1)).trans ?_
   refine (aR rfl).trans ?_
   exact aed ho hL hmin
  | true =>
   have tru:=ab8 hs htr (by rw [<- ayX htr]; exact hfit)
   have hA':=hmin (aW A) ((tX hs).2 tru.links)
   have ha2:¬ (W ((((s.1.g 0).2.1.n:Nat):Int) + ((eP (aW A):Nat):Int)) < (((s.1.g 0).2.1.n + eP (aW rows):Nat):Int)):=by rw [wa]; omega
   refine (aq rfl).trans ((aR rfl).trans ((aR rfl).trans ?_))
   refine (aK m60).trans ?_
   refine (aR rfl).trans ?_
   refine (aK (ao9 q3 q4 q5)).trans ?_
   refine (aK (apa q3 q4 q5)).trans ?_
   refine (aq (decide_eq_true a0)).trans ?_
   refine (aR (nb wb)).trans ?_
   refine (aR (decide_eq_false Sw)).trans ?_
   refine (aR (decide_eq_false hg1)).trans ?_
   refine (aq rfl).trans ?_
   refine (aq (decide_eq_true a0)).trans ?_
   refine (aK (ao9 g3 g4 g5)).trans ?_
   refine (aR (decide_eq_false ha2)).trans ?_
   exact aed ho hL hmin
theorem aQ4 (x:(a15).den):M15 x=some (true,()):=by
 obtain ⟨s,⟨A,X,Y,D,⟨⟩⟩,⟨⟩⟩:=x
 exact aoT s A X Y D
end Go.Dm
