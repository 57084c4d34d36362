/- TopMapped. -/
import Derived.Test.YtgkaoimndglnoaaGreatL5TP16
set_option linter.unusedVariables false
set_option linter.unusedSimpArgs false
namespace Go.Dm
set_option maxRecDepth 100000
theorem auS {m:adh} {f:fdT} {w r:Nat} (hb:adm m=true) (hF:asN f w r) (hn:(vls f).n<=40):∃ b,M24 (no_index (m,(f,())))=some (b,((0:Int),()))/\(b=true->(f.1=m.1/\(r:Int)=m.2.1)/\aFC m f/\ajX m f=true)/\(f.1=m.1/\(r:Int)=m.2.1->b=ajX m f):=by
 by_cases h:f.1=m.1/\(r:Int)=m.2.1
 ·obtain ⟨hS,e⟩:=atT hb hF hn h.1 h.2
  exact ⟨_,e,fun q=>⟨h,hS,q⟩,fun _=>rfl⟩
 ·exact ⟨false,aDa hb hF hn h,(fun q=>by cases q),fun q=>absurd q h⟩
end Go.Dm
