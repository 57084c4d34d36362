/- Choices that hand on, as choices. -/
import Derived.Test.YtlfgdpjompacjaaL8WX
set_option linter.unusedVariables false
set_option linter.unusedSimpArgs false
namespace Go.Dm
theorem cq102 {β : Type} (x : (a102).den) (f : (r102).den → β) (g : β) : @cl (no_index (r102).den) β (no_index (r102).dflt) (M102 x) f g = bif p102 x then f (v102 x) else g := rfl
theorem cq104 {β : Type} (x : (a104).den) (f : (r104).den → β) (g : β) : @cl (no_index (r104).den) β (no_index (r104).dflt) (M104 x) f g = bif p104 x then f (v104 x) else g := rfl
theorem cq65 {β : Type} (x : (a65).den) (f : (r65).den → β) (g : β) : @cl (no_index (r65).den) β (no_index (r65).dflt) (M65 x) f g = bif p65 x then f (v65 x) else g := rfl
theorem cq105 {β : Type} (x : (a105).den) (f : (r105).den → β) (g : β) : @cl (no_index (r105).den) β (no_index (r105).dflt) (M105 x) f g = bif p105 x then f (v105 x) else g := rfl
theorem cq67 {β : Type} (x : (a67).den) (f : (r67).den → β) (g : β) : @cl (no_index (r67).den) β (no_index (r67).dflt) (M67 x) f g = bif p67 x then f (v67 x) else g := rfl
theorem cq66 {β : Type} (x : (a66).den) (f : (r66).den → β) (g : β) : @cl (no_index (r66).den) β (no_index (r66).dflt) (M66 x) f g = bif p66 x then f (v66 x) else g := rfl
theorem cq75 {β : Type} (x : (a75).den) (f : (r75).den → β) (g : β) : @cl (no_index (r75).den) β (no_index (r75).dflt) (M75 x) f g = bif p75 x then f (v75 x) else g := rfl
theorem cq68 {β : Type} (x : (a68).den) (f : (r68).den → β) (g : β) : @cl (no_index (r68).den) β (no_index (r68).dflt) (M68 x) f g = bif p68 x then f (v68 x) else g := rfl
theorem cq72 {β : Type} (x : (a72).den) (f : (r72).den → β) (g : β) : @cl (no_index (r72).den) β (no_index (r72).dflt) (M72 x) f g = bif p72 x then f (v72 x) else g := rfl
theorem cq74 {β : Type} (x : (a74).den) (f : (r74).den → β) (g : β) : @cl (no_index (r74).den) β (no_index (r74).dflt) (M74 x) f g = bif p74 x then f (v74 x) else g := rfl
theorem cq113 {β : Type} (x : (a113).den) (f : (r113).den → β) (g : β) : @cl (no_index (r113).den) β (no_index (r113).dflt) (M113 x) f g = bif p113 x then f (v113 x) else g := rfl
theorem cq114 {β : Type} (x : (a114).den) (f : (r114).den → β) (g : β) : @cl (no_index (r114).den) β (no_index (r114).dflt) (M114 x) f g = bif p114 x then f (v114 x) else g := rfl
theorem cq118 {β : Type} (x : (a118).den) (f : (r118).den → β) (g : β) : @cl (no_index (r118).den) β (no_index (r118).dflt) (M118 x) f g = bif p118 x then f (v118 x) else g := rfl
theorem cq116 {β : Type} (x : (a116).den) (f : (r116).den → β) (g : β) : @cl (no_index (r116).den) β (no_index (r116).dflt) (M116 x) f g = bif p116 x then f (v116 x) else g := rfl
theorem cq117 {β : Type} (x : (a117).den) (f : (r117).den → β) (g : β) : @cl (no_index (r117).den) β (no_index (r117).dflt) (M117 x) f g = bif p117 x then f (v117 x) else g := rfl
theorem cq89 {β : Type} (x : (a89).den) (f : (r89).den → β) (g : β) : @cl (no_index (r89).den) β (no_index (r89).dflt) (M89 x) f g = bif p89 x then f (v89 x) else g := rfl
theorem cq90 {β : Type} (x : (a90).den) (f : (r90).den → β) (g : β) : @cl (no_index (r90).den) β (no_index (r90).dflt) (M90 x) f g = bif p90 x then f (v90 x) else g := rfl
end Go.Dm

