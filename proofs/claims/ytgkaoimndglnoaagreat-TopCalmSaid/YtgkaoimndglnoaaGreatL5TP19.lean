/- TopCalm. -/
import Derived.Test.YtgkaoimndglnoaaGreatL5TP18
set_option linter.unusedVariables false
set_option linter.unusedSimpArgs false
namespace Go.Dm
open Con
set_option maxRecDepth 100000
theorem av0 {x:aiC} (h:∀ a b,a < x.2.1.n->b < x.2.1.n->aiI x a b=false) {a b:Nat} (ha:a < x.2.1.n) (hb:b < x.2.1.n):isP x a b=false:=by
 unfold isP
 rw [h a b ha hb,Bool.and_false]
theorem av1 {β:Type} {mk:Nat->Nat->β} {x:aiC} (h:∀ a b,a < x.2.1.n->b < x.2.1.n->aiI x a b=false):ana mk x x.2.1.n=[]:=by
 rw [List.eq_nil_iff_forall_not_mem]
 intro y hy
 obtain ⟨i,j,h1,h2,h3,_⟩:=anc.1 hy
 rw [av0 h h1 h2] at h3
 cases h3
theorem aur {x:aiC} (h:∀ a b,a < x.2.1.n->b < x.2.1.n->aiI x a b=false) (d:Con.bI) (t:Int):anT x d t=false:=by
 cases hs:anT x d t with
 | false=>rfl
 | true =>
  obtain ⟨i,j,h1,h2,h3,_⟩:=aoy.1 hs
  rw [av0 h h1 h2] at h3
  cases h3
theorem auD (x:aiC):(arB x).2.2.1=0\/(arB x).2.2.1=5:=by
 unfold arB
 cases decide (anI x (al6 x false) < 0)
 ·exact .inl rfl
 ·exact .inr rfl
theorem aIZ {x:aiC} (h:∀ a b,a < x.2.1.n->b < x.2.1.n->aiI x a b=false):(arB x).2.2.1=5:=by
 have:anI x (al6 x false) = -1:=by
  unfold anI
  rw [av1 h]
  rfl
 unfold arB
 rw [this]
 rfl
theorem aVa {x:aiC} (hw:akQ x=true) (h:∀ a b,a < x.2.1.n->b < x.2.1.n->aiI x a b=false) {p:Int} (hp:0<=p/\p < (x.2.2.2.1.n:Int)) (t:Int):atx (apY x p t) (ass x p t)=1:=by
 obtain ⟨p1,p2,p3⟩:=atK hw hp
 have h1:apY x p t=false:=by
  unfold apY
  rw [List.any_eq_false]
  intro j hj
  unfold aht
  rw [aur h]
  exact Bool.false_ne_true
 have h2:ass x p t=false:=by
  cases ha:ass x p t with
  | false=>rfl
  | true =>
   unfold ass at ha
   have:aht x true (alZ x p).1 t 0=true:=iR ha (j:=0) (by unfold avE; omega)
   unfold aht at this
   rw [aur h] at this
   cases this
 rw [h1,h2]
 rfl
theorem aVb (w:aiC) (m:Go.Dm.adh) (f:fdT) (pts:ptT) (po mi:Int):M5 (no_index (w,(m,(f,(pts,(po,(mi,())))))))=some (true,()):=by
 unfold M5 Q5
 by_cases c1:(12:Int) < ((w.2.1.n:Nat):Int)
 ·exact (cn (decide_eq_true c1)).trans (cI fI)
 refine (cR (decide_eq_false c1)).trans ?_
 by_cases c2:(12:Int) < ((w.2.2.1.n:Nat):Int)
 ·exact (cn (decide_eq_true c2)).trans (cI fI)
 refine (cR (decide_eq_false c2)).trans ?_
 by_cases c3:(8:Int) < ((w.2.2.2.1.n:Nat):Int)
 ·exact (cn (decide_eq_true c3)).trans (cI fI)
 refine (cR (decide_eq_false c3)).trans ?_
 by_cases c4:(16:Int) < (((sta m).n:Nat):Int)
 ·exact (cn (decide_eq_true c4)).trans (cI fI)
 refine (cR (decide_eq_false c4)).trans ?_
 by_cases c5:(40:Int) < (((vls f).n:Nat):Int)
 ·exact (cn (decide_eq_true c5)).trans (cI fI)
 refine (cR (decide_eq_false c5)).trans ?_
 have hn:(vls f).n<=40:=by omega
 refine (cI (aZa m)).trans ?_
 cases hb:adm m with
 | false=>exact (cn rfl).trans (cI fI)
 | true =>
 have hm:=aWl hb
 refine (cR rfl).trans ?_
 refine (cI (aZ4 (f:=f) hn)).trans ?_
 cases hfb:aol f with
 | false=>exact (cn rfl).trans (cI fI)
 | true =>
 obtain ⟨fw,fr,hF⟩:=aXd hfb
 refine (cR rfl).trans ?_
 by_cases c6:(12:Int) < ((pts.n:Nat):Int)
 ·exact (cn (decide_eq_true c6)).trans (cI fI)
 refine (cR (decide_eq_false c6)).trans ?_
 by_cases c7:w.1=((pts.n:Nat):Int)
 rotate_left
 ·exact (cn (by show (!decide (w.1=((pts.n:Nat):Int)))=true; rw [decide_eq_false c7]; rfl)).trans (cI fI)
 refine (cR (by show (!decide (w.1=((pts.n:Nat):Int)))=false; rw [decide_eq_true c7]; rfl)).trans ?_
 by_cases c8:((w.2.1.n:Nat):Int)=0
 ·exact (cn (decide_eq_true c8)).trans (cI fI)
 refine (cR (decide_eq_false c8)).trans ?_
 have hsh:apZ w=true:=by
  unfold apZ
  simp only [Bool.and_eq_true,decide_eq_true_eq]
  omega
 refine (cI (aT5 hsh)).trans ?_
 cases hw:akQ w with
 | false=>exact (cn rfl).trans (cI fI)
 | true =>
 refine (cR rfl).trans ?_
 rcases aDi (w:=w) (m:=m) (f:=f) (pts:=pts) (po:=po) (mi:=mi) hm (by omega) with e | ⟨e,hP⟩
 ·exact (sV e).trans (xe e)
 refine (gV e).trans ?_
 obtain ⟨g,eg,hg1,_⟩:=auS hb hF hn
 refine (cI eg).trans ?_
 refine (cR rfl).trans ?_
 cases g with
 | false=>exact (cn rfl).trans (cI fI)
 | true =>
 obtain ⟨_,hS,hfit⟩:=hg1 rfl
 have hg:aFD m f=true:=by
  unfold ajX at hfit
  rw [Bool.and_eq_true] at hfit
  exact hfit.2
 refine (cR rfl).trans ?_
 refine (cn (decide_eq_true (by show w.2.1.n * 56<=140737488355328; omega))).trans ?_
 have h0:0 < w.2.1.n:=by omega
 have tg:=hw
 unfold akQ at tg
 rw [Bool.and_eq_true,Bool.and_eq_true,Bool.and_eq_true] at tg
 have w1:W (w.1 - 1)=w.1 - 1:=by rw [c7]; exact eU ⟨by omega,by omega⟩
 have hst:∀ i,i < w.2.1.n->0<=(w.2.1.g i).1/\(w.2.1.g i).1 < (pts.n:Int):=fun i hi=>by
  have:=iR tg.2.1 hi
  unfold aqp at this
  rw [Bool.and_eq_true,w1] at this
  have:=rW this.1
  omega
 have hlk:∀ i,i < w.2.2.1.n->(0<=(w.2.2.1.g i).1/\(w.2.2.1.g i).1 < (pts.n:Int))/\(0<=(w.2.2.1.g i).2.1/\(w.2.2.1.g i).2.1 < (pts.n:Int)):=fun i hi=>by
  have:=iR tg.2.2.1 hi
  unfold apX at this
  rw [Bool.and_eq_true,Bool.and_eq_true,w1] at this
  have a:=rW this.1
  have b:=rW this.2.1
  omega
 obtain ⟨row,hr,e51⟩:=aDl (po:=po) (mi:=mi) hm hP hS h0 (by omega) hst
 refine (gV e51).trans ?_
 have hx:=avZ hm hP hS hw h0 hst hr
 have hxn:(ait w row).2.1.n=w.2.1.n:=hr.n
 obtain ⟨aus,e52,aI0⟩:=aDm (x:=ait w row) (po:=po) (mi:=mi) hm hP (by omega) hlk
 refine (gV e52).trans ?_
 obtain ⟨al,e30,hal⟩:=aUy hx
 refine (cI e30).trans ?_
 refine (cI (aUC hx)).trans ?_
 refine (cR rfl).trans ?_
 have aVc:∀ a b,a < w.2.1.n->b < w.2.1.n->aiI (ait w row) a b=true->∃ k,k < w.2.2.1.n/\arl pts m ((ait w row).2.1.g a) ((ait w row).2.1.g b) (w.2.2.1.g k):=fun a b ha hb' h=>auC hm hP hS hg hst hr ha hb' h
 have bcv:al.n<=1000:=by
  have q1:al.list.length=al.n:=by unfold Sl.list; rw [List.length_map,List.length_range]
  have q2:=aqw prN (ait w row) (ait w row).2.1.n
  rw [<- hal,q1,hxn] at q2
  have q3:w.2.1.n * w.2.1.n<=12 * 12:=Nat.mul_le_mul (by omega) (by omega)
  omega
 have bcw:∀ j,j < al.n->∃ a b:Nat,al.g j=prN a b/\a < b/\b < (ait w row).2.1.n/\∃ k,k < w.2.2.1.n/\arl pts m ((ait w row).2.1.g a) ((ait w row).2.1.g b) (w.2.2.1.g k):=fun j hj=>by
  have:al.g j∈al.list:=List.mem_map.2 ⟨j,by simpa using hj,rfl⟩
  rw [hal] at this
  obtain ⟨a,b,h1,h2,h3,h4⟩:=anc.1 this
  unfold isP at h3
  rw [Bool.and_eq_true] at h3
  exact ⟨a,b,h4,of_decide_eq_true h3.1,h2,aVc a b (by omega) (by omega) h3.2⟩
 have h53:=aDn (x:=ait w row) (po:=po) (mi:=mi) (ac7:=(arB (ait w row)).2.2.1) (sp:=aus) hm hP (by omega) hlk bcv bcw
 have hno:aus=true->∀ a b,a < (ait w row).2.1.n->b < (ait w row).2.1.n->aiI (ait w row) a b=false:=fun hs a b ha hb'=>by
  cases hq:aiI (ait w row) a b with
  | false=>rfl
  | true =>
   obtain ⟨k,hk,hc⟩:=aVc a b (by omega) (by omega) hq
   have h1:=aI0 hs k hk
   have h2:=hc.2.2
   omega
 rcases auD (ait w row) with hs | hs
 ·refine (cR (by show (!decide ((arB (ait w row)).2.2.1=0))=false; rw [hs]; rfl)).trans ?_
  refine (gV h53).trans ?_
  cases aus with
  | false=>exact (cn rfl).trans (cI fI)
  | true =>
   have:=aIZ (hno rfl)
   rw [hs] at this
   cases this
 ·refine (cn (by show (!decide ((arB (ait w row)).2.2.1=0))=true; rw [hs]; rfl)).trans ?_
  refine (cR (by show (!decide ((arB (ait w row)).2.2.1=5))=false; rw [hs]; rfl)).trans ?_
  refine (gV h53).trans ?_
  cases aus with
  | false=>exact (cn rfl).trans (cI fI)
  | true =>
   have hno:=hno rfl
   have bcx:al.n=0:=by
    have q1:al.list.length=al.n:=by unfold Sl.list; rw [List.length_map,List.length_range]
    rw [hal,av1 hno] at q1
    exact q1.symm
   refine (cR rfl).trans ?_
   refine (cR (by show (!decide (((al.n:Nat):Int)=0))=false; rw [bcx]; rfl)).trans ?_
   refine (cR (by show (!decide ((arB (ait w row)).2.2.1=5))=false; rw [hs]; rfl)).trans ?_
   refine (cI (aUE (ait w row) po)).trans ?_
   cases hpo:asr (ait w row) po with
   | false=>exact (cn rfl).trans (cI fI)
   | true =>
   refine (cR rfl).trans ?_
   refine (cI (aUF mi)).trans ?_
   cases hmi:iQ mi 0 20000 with
   | false=>exact (cn rfl).trans (cI fI)
   | true =>
   refine (cR rfl).trans ?_
   have hxs:apZ (ait w row)=true:=by
    unfold apZ
    rw [hxn]
    exact hsh
   have hpi:=aun (w:=ait w row) (by show w.2.2.2.1.n<=140737488355328; omega) hpo
   have e34:M34 (no_index (ait w row,(po,(mi,()))))=some ((1:Int),((0:Int),())):=by
    rw [aU1 hxs,hx,hpo,hmi,aVa hx hno hpi]
    rfl
   refine (cI e34).trans ?_
   refine (cn rfl).trans ?_
   refine (cn rfl).trans ?_
   exact cI fI
theorem bpW (x:(a5).den):M5 x=some (true,()):=by
 obtain ⟨w,m,f,pts,po,mi,⟨⟩⟩:=x
 exact aVb w m f pts po mi
end Go.Dm
