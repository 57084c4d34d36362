/- What is known of a reading holds what it shows in truth. -/
import Derived.Test.YtgkaoimndglnoaaGreatL4TP8
set_option linter.unusedVariables false
set_option linter.unusedSimpArgs false
namespace Go.Dm
set_option maxRecDepth 100000
theorem auw {m:Int} (h:Int) {t:trT} (ht:TrR t):∃ z:Int,Xq (no_index (cor t m,(h,())))=some (z,()):=by
 have hw:=ht.wet
 have hd:=ht.dry
 obtain ⟨b,eb,b1,b2⟩:=aVv (t:=min t.2.2.2.2.2.2.1 t.2.2.2.2.2.1) (by omega)
 obtain ⟨d,ed,d1,d2⟩:=aVv (t:=t.2.2.2.2.2.1) hd
 have w1:=aYn (h * W (t.2.2.2.2.2.1 - min t.2.2.2.2.2.2.1 t.2.2.2.2.2.1))
 unfold Xq am4
 have e3:∃ z:Int,FF (no_index (W (W (h * W (t.2.2.2.2.2.1 - min t.2.2.2.2.2.2.1 t.2.2.2.2.2.1)) * 8),(100000,())))=some (z,()):=by
  unfold FF amN
  refine Exists.imp (fun z hz=>(cR rfl).trans ((cR rfl).trans hz)) ?_
  show ∃ z,(bif _ then _ else _)=_
  cases decide (Int.tmod (W (W (h * W (t.2.2.2.2.2.1 - min t.2.2.2.2.2.2.1 t.2.2.2.2.2.1)) * 8)) 100000 < 0) with
  | true=>exact ⟨_,rfl⟩
  | false=>exact ⟨_,rfl⟩
 obtain ⟨z3,e3⟩:=e3
 have e5:∃ z:Int,FF (no_index (W (100 * max 0 (W (b - z3))),(d,())))=some (z,()):=by
  unfold FF amN
  refine Exists.imp (fun z hz=>(cR (decide_eq_false (by show ¬ (d=0); omega))).trans ((cR (decide_eq_false (by show ¬ (d=0); omega))).trans hz)) ?_
  show ∃ z,(bif _ then _ else _)=_
  cases decide (Int.tmod (W (100 * max 0 (W (b - z3)))) d < 0) with
  | true=>exact ⟨_,rfl⟩
  | false=>exact ⟨_,rfl⟩
 obtain ⟨z5,e5⟩:=e5
 refine ⟨z5,?_⟩
 refine (cI (atc t.2.2.2.2.2.2.1 t.2.2.2.2.2.1 _)).trans ?_
 refine (cI eb).trans ?_
 refine (cI e3).trans ?_
 refine (cI (acw 0 (W (b - z3)) _)).trans ?_
 refine (cI ed).trans ?_
 exact (cI e5).trans rfl
theorem agc {r:rdT} (hr:aVq r) {t:trT} (ht:TrR t):∃ z:Int,M71 (no_index (r,(t,())))=some ((acr (mer r) t,(biH (mer r) t,(z,()))),()):=by
 have hm:=hr.mer
 have hh:=aFK (m:=mer r) hm ht
 obtain ⟨z,e⟩:=auw (m:=mer r) (acr (mer r) t) ht
 refine ⟨z,?_⟩
 unfold M71 Q71
 refine (cI (aVt (m:=mer r) hm ht)).trans ?_
 refine (cI (aVu (m:=mer r) hh ht)).trans ?_
 exact (cI e).trans rfl
def ac2 (l h:Int) (b:Bool):Int:=bif b then l else h
theorem ada (l h:Int) (b:Bool):BY (no_index ((l,(h,())),(b,())))=some (ac2 l h b,()):=by
 unfold BY amK ac2
 cases b <;> rfl
def ade (s:ju) (r:rdT) (lw hg acX acY:Bool):trT:=
  (ac2 (idx s r.1).1 (idx s r.1).2.1 (!lw),ac2 (-s.2.2.2.2.2.1) s.2.2.2.2.2.1 (!lw),ac2 s.2.2.1 s.2.2.2.1 lw,ac2 s.1 s.2.1 hg,
    ac2 r.2.2.2.2.1 r.2.2.2.2.2.1 (!lw),ac2 r.2.2.2.2.2.2.1 r.2.2.2.2.2.2.2.1 acX,ac2 r.2.2.2.2.2.2.2.2.1 r.2.2.2.2.2.2.2.2.2.1 acY,())
theorem adb {l h a b:Int} (h1:a<=l) (h2:l<=h) (h3:h<=b) (c:Bool):a<=ac2 l h c/\ac2 l h c<=b:=by
 unfold ac2
 cases c
 ·exact ⟨by show a<=h; omega,by show h<=b; omega⟩
 ·exact ⟨by show a<=l; omega,by show l<=b; omega⟩
theorem ac9 {s:ju} {r:rdT} (h:vi s) (ha:AgB s) (hr:aVq r) (lw hg acX acY:Bool):TrR (ade s r lw hg acX acY):=by
 have hi:=ah3 h ha hr.day
 have hR:=h.rea
 refine ⟨adb hi.1 hi.2.1 hi.2.2 _,adb (by omega) (by omega) (by omega) _,adb h.gra.1 h.gra.2.1 h.gra.2.2 _,adb h.hgt.1 h.hgt.2.1 h.hgt.2.2 _,adb hr.aai.1 hr.aai.2.1 hr.aai.2.2 _,adb hr.dry.1 hr.dry.2.1 hr.dry.2.2 _,adb hr.wet.1 hr.wet.2.1 hr.wet.2.2 _⟩
theorem adj {s:ju} {r:rdT} (h:vi s) (hr:aVq r) (lw hg acX acY:Bool) {m:mpT} (hm:Mem s m):∃ m':mpT,Mem s m'/\U72 (no_index (rX s,(r,(lw,(hg,(acX,(acY,(m,())))))))) = .ok (ade s r lw hg acX acY,()) (m',()):=by
 obtain ⟨m',hm',e⟩:=alc h hr.day hm
 have hR:=h.rea
 have acW:W (0 - s.2.2.2.2.2.1) = -s.2.2.2.2.2.1:=by rw [eU ⟨by omega,by omega⟩]; omega
 refine ⟨m',hm',?_⟩
 unfold U72 Q72
 refine (Sd e).trans ?_
 refine (cI (ada (idx s r.1).1 (idx s r.1).2.1 (!lw))).trans ?_
 refine (cI (x:=(ac2 (-s.2.2.2.2.2.1) s.2.2.2.2.2.1 (!lw),())) ?_).trans ?_
 ·show BY ((W (0 - s.2.2.2.2.2.1),(s.2.2.2.2.2.1,())),(!lw,()))=_
  rw [acW]
  exact ada _ _ _
 refine (cI (ada s.2.2.1 s.2.2.2.1 lw)).trans ?_
 refine (cI (ada s.1 s.2.1 hg)).trans ?_
 refine (cI (ada r.2.2.2.2.1 r.2.2.2.2.2.1 (!lw))).trans ?_
 refine (cI (ada r.2.2.2.2.2.2.1 r.2.2.2.2.2.2.2.1 acX)).trans ?_
 exact (cI (ada r.2.2.2.2.2.2.2.2.1 r.2.2.2.2.2.2.2.2.2.1 acY)).trans rfl
abbrev weT:Type:=Int×Int×Int×Unit
theorem agr {r:rdT} (hr:aVq r) {a b:trT} (ha:TrR a) (hb:TrR b) {F:weT×Unit->Bool×(Int×Unit)} {f:weT->Int} (hF:∀ w,F (w,())=(true,(f w,()))) :
  ∃ za aaj:Int,M73 (no_index (a,(b,((fun (y1:trT×Unit)=>(p70 (y1.1,((F,()),(r,()))),v70 (y1.1,((F,()),(r,()))))),())))) =
   some ((f (acr (mer r) a,(biH (mer r) a,(za,()))),(f (acr (mer r) b,(biH (mer r) b,(aaj,()))),())),()):=by
 obtain ⟨za,ea⟩:=agc hr ha
 obtain ⟨aaj,eb⟩:=agc hr hb
 have e:∀ (t:trT) (z:Int),M71 (no_index (r,(t,())))=some ((acr (mer r) t,(biH (mer r) t,(z,()))),())->M70 (t,((F,()),(r,())))=some (f (acr (mer r) t,(biH (mer r) t,(z,()))),()):=fun t z ac6=>by
  unfold M70 Q70
  refine (cI ac6).trans ?_
  refine (cn (by show (F (_,())).1=true; rw [hF])).trans ?_
  show some (F (_,())).2=_
  rw [hF]
 refine ⟨za,aaj,?_⟩
 have pa:p70 (a,((F,()),(r,())))=true:=aiu (e a za ea ..)
 have pb:p70 (b,((F,()),(r,())))=true:=aiu (e b aaj eb ..)
 have ac4:v70 (a,((F,()),(r,())))=(f (acr (mer r) a,(biH (mer r) a,(za,()))),()):=ahw (e a za ea ..)
 have ac0:v70 (b,((F,()),(r,())))=(f (acr (mer r) b,(biH (mer r) b,(aaj,()))),()):=ahw (e b aaj eb ..)
 unfold M73 Q73
 refine (cn pa).trans ?_
 refine (cn pb).trans ?_
 show some (((v70 (a,((F,()),(r,())))).1,v70 (b,((F,()),(r,())))),())=_
 rw [ac4,ac0]
theorem aYP {s:ju} {r:rdT} (hb:stB s=true) (ha:AgB s) (hr:rdB r=true):∃ h1 h2 z1 z2:Int,
  M22 (no_index (s,(r,())))=some ((h1,(h2,(biH (mer r) (ade s r true true false true),(biH (mer r) (ade s r false false true true),(z1,(z2,())))))),((0:Int),())):=by
 have hS:=KC hb
 have hR:=aYj hr
 obtain ⟨m1,k1,u1⟩:=adj hS hR true true false true (Mem.none s)
 obtain ⟨m2,k2,u2⟩:=adj hS hR false false true true k1
 obtain ⟨m3,k3,u3⟩:=adj hS hR false true false true k2
 obtain ⟨m4,k4,u4⟩:=adj hS hR true true true false k3
 have t1:=ac9 hS ha hR true true false true
 have t2:=ac9 hS ha hR false false true true
 have t3:=ac9 hS ha hR false true false true
 have t4:=ac9 hS ha hR true true true false
 obtain ⟨za,aaj,e7⟩:=agr hR t1 t2 (F:=fun y1=>(p74 y1,v74 y1)) (f:=fun w=>w.1) fun w=>rfl
 obtain ⟨acZ,zd,e9⟩:=agr hR t1 t2 (F:=fun y1=>(p75 y1,v75 y1)) (f:=fun w=>w.2.1) fun w=>rfl
 obtain ⟨ac5,ac1,e11⟩:=agr hR t3 t4 (F:=fun y1=>(p76 y1,v76 y1)) (f:=fun w=>w.2.2.1) fun w=>rfl
 refine ⟨acr (mer r) (ade s r true true false true),acr (mer r) (ade s r false false true true),ac5,ac1,?_⟩
 ·unfold M22 Q22
  refine (cI (aYk r)).trans ?_
  refine (cI (x:=(rX s,((0:Int),()))) ?_).trans ?_
  ·rw [hr]; exact ald hb ha
  refine (cn rfl).trans ?_
  refine (cR rfl).trans ?_
  refine (Sd u1).trans ?_
  refine (Sd u2).trans ?_
  refine (Sd u3).trans ?_
  refine (Sd u4).trans ?_
  refine (cI (x:=((fun (y1:trT×Unit)=>(p70 (y1.1,(((fun y1=>(p74 y1,v74 y1)),()),(r,()))),v70 (y1.1,(((fun y1=>(p74 y1,v74 y1)),()),(r,()))))),())) rfl).trans ?_
  refine (cI e7).trans ?_
  refine (cI (x:=((fun (y1:trT×Unit)=>(p70 (y1.1,(((fun y1=>(p75 y1,v75 y1)),()),(r,()))),v70 (y1.1,(((fun y1=>(p75 y1,v75 y1)),()),(r,()))))),())) rfl).trans ?_
  refine (cI e9).trans ?_
  refine (cI (x:=((fun (y1:trT×Unit)=>(p70 (y1.1,(((fun y1=>(p76 y1,v76 y1)),()),(r,()))),v70 (y1.1,(((fun y1=>(p76 y1,v76 y1)),()),(r,()))))),())) rfl).trans ?_
  exact (cI e11).trans rfl
structure adk (s:ju) (r:rdT) (t:trT):Prop where
 idx:(idx s r.1).1<=t.1/\t.1<=(idx s r.1).2.1
 err:-s.2.2.2.2.2.1<=t.2.1/\t.2.1<=s.2.2.2.2.2.1
 gra:s.2.2.1<=t.2.2.1/\t.2.2.1<=s.2.2.2.1
 hei:s.1<=t.2.2.2.1/\t.2.2.2.1<=s.2.1
 aai:r.2.2.2.2.1<=t.2.2.2.2.1/\t.2.2.2.2.1<=r.2.2.2.2.2.1
 dry:r.2.2.2.2.2.2.1<=t.2.2.2.2.2.1/\t.2.2.2.2.2.1<=r.2.2.2.2.2.2.2.1
 wet:r.2.2.2.2.2.2.2.2.1<=t.2.2.2.2.2.2.1/\t.2.2.2.2.2.2.1<=r.2.2.2.2.2.2.2.2.2.1
theorem adk.rng {s:ju} {r:rdT} {t:trT} (h:adk s r t) (hS:vi s) (ha:AgB s) (hr:aVq r):TrR t:=by
 have hi:=ah3 hS ha hr.day
 have a1:=h.idx; have a2:=h.err; have a3:=h.gra; have a4:=h.hei; have a5:=h.aai; have a6:=h.dry; have a7:=h.wet
 have b2:=hS.rea; have b3:=hS.gra; have b4:=hS.hgt; have b5:=hr.aai; have b6:=hr.dry; have b7:=hr.wet
 exact ⟨⟨by omega,by omega⟩,⟨by omega,by omega⟩,⟨by omega,by omega⟩,⟨by omega,by omega⟩,⟨by omega,by omega⟩,⟨by omega,by omega⟩,⟨by omega,by omega⟩⟩
theorem adg {x l h:Int} (hx:l<=x/\x<=h):M77 (no_index (x,((l,(h,())),())))=some (true,()):=by
 unfold M77 Q77
 refine (cI (KB x l h)).trans ?_
 rw [show iQ x l h=true from decide_eq_true hx]
theorem aYR {s:ju} {r:rdT} {t:trT} (hb:stB s=true) (ha:AgB s) (hr:rdB r=true) (ht:adk s r t):∃ h1 z1:Int,
  M23 (no_index (s,(r,(t,()))))=some ((h1,(biH (mer r) t,(z1,()))),((0:Int),())):=by
 have hS:=KC hb
 have hR:=aYj hr
 obtain ⟨m1,k1,u1⟩:=alc hS hR.day (Mem.none s)
 obtain ⟨z,e⟩:=agc hR (ht.rng hS ha hR)
 have hRe:=hS.rea
 have acW:W (0 - s.2.2.2.2.2.1) = -s.2.2.2.2.2.1:=by rw [eU ⟨by omega,by omega⟩]; omega
 refine ⟨acr (mer r) t,z,?_⟩
 unfold M23 Q23
 refine (cI (aYk r)).trans ?_
 refine (cI (x:=(rX s,((0:Int),()))) ?_).trans ?_
 ·rw [hr]; exact ald hb ha
 refine (cn rfl).trans ?_
 refine (cR rfl).trans ?_
 refine (Sd u1).trans ?_
 refine (cI (adg ht.idx)).trans ?_
 refine (cR rfl).trans ?_
 refine (cI (x:=(true,())) ?_).trans ?_
 ·show Ed (t.2.1,(W (0 - s.2.2.2.2.2.1),(s.2.2.2.2.2.1,())))=_
  rw [acW]
  refine (KB _ _ _).trans ?_
  rw [show iQ t.2.1 (-s.2.2.2.2.2.1) s.2.2.2.2.2.1=true from decide_eq_true ht.err]
 refine (cR rfl).trans ?_
 refine (cI (adg ht.gra)).trans ?_
 refine (cR rfl).trans ?_
 refine (cI (adg ht.hei)).trans ?_
 refine (cR rfl).trans ?_
 refine (cI (adg ht.aai)).trans ?_
 refine (cR rfl).trans ?_
 refine (cI (adg ht.dry)).trans ?_
 refine (cR rfl).trans ?_
 refine (cI (adg ht.wet)).trans ?_
 refine (cR rfl).trans ?_
 exact (cI e).trans rfl
theorem aV4 {s:ju} {r:rdT} {t:trT} (hS:vi s) (ha:AgB s) (hR:aVq r) (ht:adk s r t) :
  biH (mer r) (ade s r true true false true)<=biH (mer r) t/\biH (mer r) t<=biH (mer r) (ade s r false false true true):=by
 have hT:=ht.rng hS ha hR
 have hm:40000<=mer r/\mer r<=90000:=hR.mer
 have t1:=ac9 hS ha hR true true false true
 have t2:=ac9 hS ha hR false false true true
 have h0:=aFK hm hT
 have h1:=aFK hm t1
 have h2:=aFK hm t2
 have a1:=ht.idx; have a2:=ht.err; have a3:=ht.gra; have a4:=ht.hei; have a5:=ht.aai; have a6:=ht.dry
 have hi:=ah3 hS ha hR.day
 have b2:=hS.rea; have b3:=hS.gra; have b4:=hS.hgt; have b5:=hR.aai; have b6:=hR.dry
 have g0:=acU (m:=mer r - t.1 - t.2.1) (a:=t.2.2.2.2.1) (by omega) (by omega)
 have g1:=acU (m:=mer r - (idx s r.1).2.1 - s.2.2.2.2.2.1) (a:=r.2.2.2.2.2.1) (by omega) (by omega)
 have g2:=acU (m:=mer r - (idx s r.1).1 - -s.2.2.2.2.2.1) (a:=r.2.2.2.2.1) (by omega) (by omega)
 have l1:acr (mer r) (ade s r true true false true)<=acr (mer r) t:=by
  show abC (abh (mer r - (idx s r.1).2.1 - s.2.2.2.2.2.1) r.2.2.2.2.2.1) s.2.2.1<=abC (abh (mer r - t.1 - t.2.1) t.2.2.2.2.1) t.2.2.1
  exact avW (by omega) (avS (by omega) (by omega) (by omega) (by omega)) (by omega) (by omega)
 have l2:acr (mer r) t<=acr (mer r) (ade s r false false true true):=by
  show abC (abh (mer r - t.1 - t.2.1) t.2.2.2.2.1) t.2.2.1<=abC (abh (mer r - (idx s r.1).1 - -s.2.2.2.2.2.1) r.2.2.2.2.1) s.2.2.2.1
  exact avW (by omega) (avS (by omega) (by omega) (by omega) (by omega)) (by omega) (by omega)
 exact ⟨aDk (z:=s.1) (d:=r.2.2.2.2.2.2.2.1) ⟨h1.1,h0.2⟩ l1 (by omega) (by omega) (by omega) (by omega),aDk (z':=s.2.1) (d':=r.2.2.2.2.2.2.1) ⟨h0.1,h2.2⟩ l2 (by omega) (by omega) (by omega) (by omega)⟩
end Go.Dm
