/- TopMapped. -/
import Derived.Test.YtgkaoimndglnoaaGreatL4TP16
set_option linter.unusedVariables false
set_option linter.unusedSimpArgs false
namespace Go.Dm
set_option maxRecDepth 100000
theorem at2 {m:adh} {l:Sl plT} {f:fdT} {is:Bool} {st:Sl csT} (hm:aqq m) (hl:l.n<=6) (hp:∀ j,j < l.n->alF m (l.g j)) (hs:afk m l f l.n is st):aqq (aiD m st) where
 wide:=hm.wide
 rows:=hm.rows
 aD7:=hm.aD7
 n:=by show st.n<=12; rw [hs.n]; omega
 pt:=fun j hj=>by
  have hj':j < l.n:=by have h:j < st.n:=hj; rw [hs.n] at h; exact h
  show 0<=(st.g j).1/\(st.g j).1<=m.1 * m.2.1 - 1
  rw [(hs.ok j hj').1]
  exact (hp j hj').pt
 pr:=fun j hj=>by
  have hj':j < l.n:=by have h:j < st.n:=hj; rw [hs.n] at h; exact h
  exact (hs.ok j hj').2
theorem apB {m:adh} {l:Sl plT} {f:fdT} {st:Sl csT} (hs:afk m l f l.n true st) (hg:aFD m f=true):ajX (aiD m st) f=true:=by
 unfold ajX
 rw [Bool.and_eq_true]
 refine ⟨xd fun j hj=>?_,hg⟩
 have hj':j < l.n:=by have h:j < st.n:=hj; rw [hs.n] at h; exact h
 obtain ⟨p,hp,_,h1,h2⟩:=hs.is rfl j hj'
 have hk:=(hs.ok j hj').1
 have e:adf (aiD m st) j=p:=by
  show (st.g j).1.toNat=p
  rw [hk,hp,Int.toNat_natCast]
 unfold stI
 rw [e]
 exact decide_eq_true ⟨h1,h2⟩
theorem auS {m:adh} {f:fdT} {w r:Nat} (hb:adm m=true) (hF:asN f w r) (hn:(vls f).n<=40):∃ b,M24 (no_index (m,(f,())))=some (b,((0:Int),()))/\(b=true->(f.1=m.1/\(r:Int)=m.2.1)/\aFC m f/\ajX m f=true)/\(f.1=m.1/\(r:Int)=m.2.1->b=ajX m f):=by
 by_cases h:f.1=m.1/\(r:Int)=m.2.1
 ·obtain ⟨hS,e⟩:=atT hb hF hn h.1 h.2
  exact ⟨_,e,fun q=>⟨h,hS,q⟩,fun _=>rfl⟩
 ·exact ⟨false,aDa hb hF hn h,(fun q=>by cases q),fun q=>absurd q h⟩
theorem ajh {m:adh} (ha:AgC m) (hc:alJ m):False:=by
 obtain ⟨i,k,h1,h2,h3⟩:=hc
 rw [ha i k h1 h2] at h3
 cases h3
theorem aHR (m:adh) (l:Sl plT) (f:fdT):M4 (no_index (m,(l,(f,()))))=some (true,()):=by
 unfold M4 Q4
 by_cases c0:(((sta m).n:Nat):Int)=0
 rotate_left
 ·exact (cn (by show (!decide ((((sta m).n:Nat):Int)=0))=true; rw [decide_eq_false c0]; rfl)).trans (cI fI)
 refine (cR (by show (!decide ((((sta m).n:Nat):Int)=0))=false; rw [decide_eq_true c0]; rfl)).trans ?_
 by_cases c1:(6:Int) < ((l.n:Nat):Int)
 ·exact (cn (decide_eq_true c1)).trans (cI fI)
 refine (cR (decide_eq_false c1)).trans ?_
 by_cases c2:(40:Int) < (((vls f).n:Nat):Int)
 ·exact (cn (decide_eq_true c2)).trans (cI fI)
 refine (cR (decide_eq_false c2)).trans ?_
 have hl:l.n<=6:=by omega
 have hn:(vls f).n<=40:=by omega
 refine (cI (aZa m)).trans ?_
 cases hb:adm m with
 | false=>exact (cn rfl).trans (cI fI)
 | true =>
 have hm:=aWl hb
 refine (cR rfl).trans ?_
 refine (cI (aZ4 (f:=f) hn)).trans ?_
 cases hfb:aol f with
 | false=>exact (cn rfl).trans (cI fI)
 | true =>
 obtain ⟨w,r,hF⟩:=aXd hfb
 refine (cR rfl).trans ?_
 obtain ⟨b21,e21,hp⟩:=aHl hm hl
 refine (cI e21).trans ?_
 cases b21 with
 | false=>exact (cn rfl).trans (cI fI)
 | true =>
 have hp:=hp rfl
 refine (cR rfl).trans ?_
 rcases atX (f:=f) hm hl hp with e | ⟨is,st,hs,e⟩
 ·exact (sV e).trans (xe e)
 refine (gV e).trans ?_
 have hX:=at2 hm hl hp hs
 have hbx:=aWm hX
 obtain ⟨g,eg,hg1,hg2⟩:=auS hb hF hn
 obtain ⟨ft,et,ht1,ht2⟩:=auS hbx hF hn
 have eN:W (m.1 * m.2.1)=((adr (aiD m st):Nat):Int):=by rw [(aiv hm.wide hm.rows).1]; exact hX.eN.1
 have F1:is=true->g=true->ft=true:=fun q1 q2=>by
  obtain ⟨h1,h2,h3⟩:=hg1 q2
  subst q1
  rw [ht2 h1]
  unfold ajX at h3
  rw [Bool.and_eq_true] at h3
  exact apB hs h3.2
 have F2:ft=true->AgC (aiD m st):=fun q=>aDd hX (ht1 q).2.2
 refine (cI eg).trans ?_
 refine (cR rfl).trans ?_
 refine (cI et).trans ?_
 rcases baL hbx with ⟨ha,e25⟩ | ⟨hc,z,e25⟩
 ·rcases baM hbx with ⟨_,e26⟩ | ⟨hc,_,_⟩
  rotate_left
  ·exact (ajh ha hc).elim
  have e41:yh (no_index ((),((),(ft,(aiz (aiD m st) (adr (aiD m st)),((),(W (m.1 * m.2.1),(f,(aiD m st,(((aiD m st).1,(drawn (aiD m st) (adr (aiD m st)),())),())))))))))) (no_index ((0:Int),())) = .exit 2 ():=by
   rw [eN]
   exact at1 hX fun q=>(ht1 q).2
  refine (cI e25).trans ?_
  refine (cI e26).trans ?_
  refine (cR rfl).trans ?_
  refine (cR rfl).trans ?_
  refine (cR rfl).trans ?_
  cases is with
  | false =>
   refine (cR rfl).trans ?_
   refine (cR rfl).trans ?_
   refine (cR (by show (!decide ((((aiz (aiD m st) (adr (aiD m st))).n:Nat):Int)=W (m.1 * m.2.1)))=false; rw [ajd,eN,decide_eq_true rfl]; rfl)).trans ?_
   refine (cR (by show (!decide ((((drawn (aiD m st) (adr (aiD m st))).n:Nat):Int)=W (m.1 * m.2.1)))=false; rw [aj5,eN,decide_eq_true rfl]; rfl)).trans ?_
   refine (gV e41).trans ?_
   refine (gV (alG hX ha)).trans ?_
   exact cI fI
  | true =>
   refine (cn rfl).trans ?_
   cases g with
   | false =>
    refine (cR rfl).trans ?_
    refine (cR rfl).trans ?_
    refine (cR (by show (!decide ((((aiz (aiD m st) (adr (aiD m st))).n:Nat):Int)=W (m.1 * m.2.1)))=false; rw [ajd,eN,decide_eq_true rfl]; rfl)).trans ?_
    refine (cR (by show (!decide ((((drawn (aiD m st) (adr (aiD m st))).n:Nat):Int)=W (m.1 * m.2.1)))=false; rw [aj5,eN,decide_eq_true rfl]; rfl)).trans ?_
    refine (gV e41).trans ?_
    refine (gV (alG hX ha)).trans ?_
    exact cI fI
   | true =>
    refine (cn rfl).trans ?_
    refine (cR (by show (!ft)=false; rw [F1 rfl rfl]; rfl)).trans ?_
    refine (cR rfl).trans ?_
    refine (cR rfl).trans ?_
    refine (cR (by show (!decide ((((aiz (aiD m st) (adr (aiD m st))).n:Nat):Int)=W (m.1 * m.2.1)))=false; rw [ajd,eN,decide_eq_true rfl]; rfl)).trans ?_
    refine (cR (by show (!decide ((((drawn (aiD m st) (adr (aiD m st))).n:Nat):Int)=W (m.1 * m.2.1)))=false; rw [aj5,eN,decide_eq_true rfl]; rfl)).trans ?_
    refine (gV e41).trans ?_
    refine (gV (alG hX ha)).trans ?_
    exact cI fI
 ·rcases baM hbx with ⟨ha,_⟩ | ⟨_,z',e26⟩
  ·exact (ajh ha hc).elim
  have hft:ft=false:=by
   cases hq:ft with
   | false=>rfl
   | true=>exact (ajh (F2 hq) hc).elim
  subst hft
  refine (cI e25).trans ?_
  refine (cI e26).trans ?_
  refine (cR rfl).trans ?_
  refine (cR rfl).trans ?_
  refine (cn rfl).trans ?_
  refine (cR rfl).trans ?_
  cases is with
  | false =>
   refine (cR rfl).trans ?_
   refine (cn rfl).trans ?_
   refine (cn rfl).trans ?_
   exact cI fI
  | true =>
   refine (cn rfl).trans ?_
   cases g with
   | false =>
    refine (cR rfl).trans ?_
    refine (cn rfl).trans ?_
    refine (cn rfl).trans ?_
    exact cI fI
   | true=>exact absurd (F1 rfl rfl) Bool.false_ne_true
theorem bl5 (x:(a4).den):M4 x=some (true,()):=by
 obtain ⟨m,l,f,⟨⟩⟩:=x
 exact aHR m l f
end Go.Dm
