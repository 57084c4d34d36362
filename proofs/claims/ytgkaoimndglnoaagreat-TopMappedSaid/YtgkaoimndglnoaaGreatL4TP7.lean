/- What is known of a reading: the corrections of the mercury, and that they go up and down together. -/
import Derived.Test.YtgkaoimndglnoaaGreatL4TP4
set_option linter.unusedVariables false
set_option linter.unusedSimpArgs false
namespace Go.Dm
set_option maxRecDepth 100000
theorem atU {x y A B:Int} (hx:-A<=x/\x<=A) (hy:-B<=y/\y<=B):-(A * B)<=x * y/\x * y<=A * B:=by
 have h1:=Int.mul_nonneg (show 0<=A - x by omega) (show 0<=B + y by omega)
 have h2:=Int.mul_nonneg (show 0<=A + x by omega) (show 0<=B - y by omega)
 have h3:=Int.mul_nonneg (show 0<=A - x by omega) (show 0<=B - y by omega)
 have h4:=Int.mul_nonneg (show 0<=A + x by omega) (show 0<=B + y by omega)
 rw [Int.sub_mul,Int.mul_add,Int.mul_add] at h1
 rw [Int.add_mul,Int.mul_sub,Int.mul_sub] at h2
 rw [Int.sub_mul,Int.mul_sub,Int.mul_sub] at h3
 rw [Int.add_mul,Int.mul_add,Int.mul_add] at h4
 omega
theorem aiF {a b:Int} (hb:0 < b):(bif decide (Int.tmod a b < 0) then Int.tdiv a b - 1 else Int.tdiv a b)=a / b:=by
 have h0:b * (a / b) + a % b=a:=Int.mul_ediv_add_emod a b
 have h1:=Int.emod_nonneg a (show b≠0 by omega)
 have h2:=Int.emod_lt_of_pos a hb
 by_cases ha:0<=a
 ·rw [Int.tdiv_eq_ediv_of_nonneg ha,Int.tmod_eq_emod_of_nonneg ha,decide_eq_false (by omega)]; rfl
 ·have e1:Int.tdiv a b = -((-a) / b):=by rw [<- Int.tdiv_eq_ediv_of_nonneg (by omega),Int.neg_tdiv]; omega
  have e2:Int.tmod a b = -((-a) % b):=by rw [<- Int.tmod_eq_emod_of_nonneg (by omega),Int.neg_tmod]; omega
  have k0:b * ((-a) / b) + (-a) % b = -a:=Int.mul_ediv_add_emod (-a) b
  have k1:=Int.emod_nonneg (-a) (show b≠0 by omega)
  have k2:=Int.emod_lt_of_pos (-a) hb
  rw [e1,e2]
  by_cases hz:(-a) % b=0
  ·rw [decide_eq_false (by omega),cond_false]
   refine (Int.ediv_eq_of_eq_mul_right (by omega) ?_).symm
   rw [Int.mul_neg]; omega
  ·rw [decide_eq_true (by omega),cond_true]
   have:a / b = -((-a) / b) - 1:=by
    apply Int.le_antisymm
    ·have:a / b < -((-a) / b):=by
      apply Int.ediv_lt_of_lt_mul hb
      rw [Int.neg_mul,Int.mul_comm]; omega
     omega
    ·apply Int.le_ediv_of_mul_le hb
     rw [Int.sub_mul,Int.neg_mul,Int.mul_comm]; omega
   omega
theorem acs {a b:Int} (ha:-4611686018427387904<=a/\a<=4611686018427387904) (hb:0 < b):FF (no_index (a,(b,())))=some (a / b,()):=by
 have hq:-4611686018427387904<=a / b/\a / b<=4611686018427387904:=by
  constructor
  ·apply Int.le_ediv_of_mul_le hb
   have:=Int.mul_le_mul_of_nonneg_left (show (1:Int)<=b by omega) (show (0:Int)<=4611686018427387904 by omega)
   omega
  ·have h1:=Int.ediv_le_ediv hb ha.2
   have h2:=Int.ediv_le_self b (show (0:Int)<=4611686018427387904 by omega)
   omega
 unfold FF amN
 refine (cR (decide_eq_false (by show ¬ (b=0); omega))).trans ?_
 refine (cR (decide_eq_false (by show ¬ (b=0); omega))).trans ?_
 have hf:=aiF (a:=a) hb
 show (bif decide (Int.tmod a b < 0) then some (W (W (Int.tdiv a b) - 1),()) else some (W (Int.tdiv a b),()))=_
 cases hd:decide (Int.tmod a b < 0) with
 | true =>
  rw [hd,cond_true] at hf
  rw [cond_true,eU (n:=Int.tdiv a b) ⟨by omega,by omega⟩,hf,eU ⟨by omega,by omega⟩]
 | false =>
  rw [hd,cond_false] at hf
  rw [cond_false,hf,eU ⟨by omega,by omega⟩]
def abh (m a:Int):Int:=m - m * a * 163 / 10000000
def abC (m g:Int):Int:=m + m * g / 1000000
def aDj (m i e g a:Int):Int:=abC (abh (m - i - e) a) g
def ac3 (h z d:Int):Int:=h + h * z * 10 / (79900 + 29 * d)
theorem acU {m a:Int} (hm:37800<=m/\m<=92200) (ha:-300<=a/\a<=500):-46100000<=m * a/\m * a<=46100000/\37000<=abh m a/\abh m a<=93000:=by
 have:=atU (x:=m) (y:=a) (A:=92200) (B:=500) (by omega) (by omega)
 unfold abh
 omega
theorem avS {m m' a a':Int} (hm:0<=m) (h:m<=m') (ha:-300<=a/\a<=500) (ha':a'<=a):abh m a<=abh m' a':=by
 have h1:(m' - m) * a<=(m' - m) * 500:=Int.mul_le_mul_of_nonneg_left ha.2 (by omega)
 have h2:m' * a'<=m' * a:=Int.mul_le_mul_of_nonneg_left ha' (by omega)
 rw [Int.sub_mul] at h1
 unfold abh
 omega
theorem acV {m g:Int} (hm:37000<=m/\m<=93000) (hg:-3000<=g/\g<=3000):-279000000<=m * g/\m * g<=279000000/\36700<=abC m g/\abC m g<=93300:=by
 have:=atU (x:=m) (y:=g) (A:=93000) (B:=3000) (by omega) (by omega)
 unfold abC
 omega
theorem avW {m m' g g':Int} (hm:0<=m) (h:m<=m') (hg:-3000<=g/\g<=3000) (hg':g<=g'):abC m g<=abC m' g':=by
 have h1:(m' - m) * (-3000)<=(m' - m) * g:=Int.mul_le_mul_of_nonneg_left hg.1 (by omega)
 have h2:m' * g<=m' * g':=Int.mul_le_mul_of_nonneg_left hg' (by omega)
 rw [Int.sub_mul (m') m g] at h1
 unfold abC
 omega
theorem acG {h z d:Int} (hh:36700<=h/\h<=93300) (hz:0<=z/\z<=3000) (hd:-300<=d/\d<=500):0<=h * z/\h * z<=279900000/\0 < 79900 + 29 * d/\0<=h * z * 10 / (79900 + 29 * d)/\h * z * 10 / (79900 + 29 * d)<=2799000000:=by
 have a1:0<=h * z:=Int.mul_nonneg (by omega) hz.1
 have a2:=atU (x:=h) (y:=z) (A:=93300) (B:=3000) (by omega) (by omega)
 have hp:0 < 79900 + 29 * d:=by omega
 refine ⟨a1,by omega,hp,Int.ediv_nonneg (by omega) (by omega),?_⟩
 have:=Int.ediv_le_self (79900 + 29 * d) (show 0<=h * z * 10 by omega)
 omega
theorem aDk {h h' z z' d d':Int} (hh:36700<=h/\h'<=93300) (h1:h<=h') (hz:0<=z/\z'<=3000) (Px:z<=z') (hd:-300<=d'/\d<=500) (hd':d'<=d):ac3 h z d<=ac3 h' z' d':=by
 have a1:h * z<=h' * z':=Int.mul_le_mul h1 Px hz.1 (by omega)
 have b1:=acG (h:=h) (z:=z) (d:=d) (by omega) (by omega) (by omega)
 have b2:=acG (h:=h') (z:=z') (d:=d') (by omega) (by omega) (by omega)
 have q:h * z * 10 / (79900 + 29 * d)<=h' * z' * 10 / (79900 + 29 * d'):=by
  apply Int.le_ediv_of_mul_le b2.2.2.1
  have c1:h * z * 10 / (79900 + 29 * d) * (79900 + 29 * d)<=h * z * 10:=Int.ediv_mul_le _ (by omega)
  have c2:h * z * 10 / (79900 + 29 * d) * (79900 + 29 * d')<=h * z * 10 / (79900 + 29 * d) * (79900 + 29 * d):=Int.mul_le_mul_of_nonneg_left (by omega) b1.2.2.2.1
  omega
 unfold ac3
 omega
end Go.Dm
