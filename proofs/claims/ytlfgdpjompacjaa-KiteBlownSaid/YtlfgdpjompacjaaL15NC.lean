/- Choices that hand on, as choices. -/
import Derived.Test.YtlfgdpjompacjaaL15WX
set_option linter.unusedVariables false
set_option linter.unusedSimpArgs false
namespace Go.Dm
theorem cq102 {β : Type} (x : (a102).den) (f : (r102).den → β) (g : β) : @cl (no_index (r102).den) β (no_index (r102).dflt) (M102 x) f g = bif p102 x then f (v102 x) else g := rfl
theorem cq104 {β : Type} (x : (a104).den) (f : (r104).den → β) (g : β) : @cl (no_index (r104).den) β (no_index (r104).dflt) (M104 x) f g = bif p104 x then f (v104 x) else g := rfl
theorem cq73 {β : Type} (x : (a73).den) (f : (r73).den → β) (g : β) : @cl (no_index (r73).den) β (no_index (r73).dflt) (M73 x) f g = bif p73 x then f (v73 x) else g := rfl
theorem cq75 {β : Type} (x : (a75).den) (f : (r75).den → β) (g : β) : @cl (no_index (r75).den) β (no_index (r75).dflt) (M75 x) f g = bif p75 x then f (v75 x) else g := rfl
theorem cq68 {β : Type} (x : (a68).den) (f : (r68).den → β) (g : β) : @cl (no_index (r68).den) β (no_index (r68).dflt) (M68 x) f g = bif p68 x then f (v68 x) else g := rfl
theorem cq113 {β : Type} (x : (a113).den) (f : (r113).den → β) (g : β) : @cl (no_index (r113).den) β (no_index (r113).dflt) (M113 x) f g = bif p113 x then f (v113 x) else g := rfl
theorem cq114 {β : Type} (x : (a114).den) (f : (r114).den → β) (g : β) : @cl (no_index (r114).den) β (no_index (r114).dflt) (M114 x) f g = bif p114 x then f (v114 x) else g := rfl
theorem cq92 {β : Type} (x : (a92).den) (f : (r92).den → β) (g : β) : @cl (no_index (r92).den) β (no_index (r92).dflt) (M92 x) f g = bif p92 x then f (v92 x) else g := rfl
theorem cq118 {β : Type} (x : (a118).den) (f : (r118).den → β) (g : β) : @cl (no_index (r118).den) β (no_index (r118).dflt) (M118 x) f g = bif p118 x then f (v118 x) else g := rfl
theorem cq116 {β : Type} (x : (a116).den) (f : (r116).den → β) (g : β) : @cl (no_index (r116).den) β (no_index (r116).dflt) (M116 x) f g = bif p116 x then f (v116 x) else g := rfl
theorem cq117 {β : Type} (x : (a117).den) (f : (r117).den → β) (g : β) : @cl (no_index (r117).den) β (no_index (r117).dflt) (M117 x) f g = bif p117 x then f (v117 x) else g := rfl
theorem cq94 {β : Type} (x : (a94).den) (f : (r94).den → β) (g : β) : @cl (no_index (r94).den) β (no_index (r94).dflt) (M94 x) f g = bif p94 x then f (v94 x) else g := rfl
theorem cq95 {β : Type} (x : (a95).den) (f : (r95).den → β) (g : β) : @cl (no_index (r95).den) β (no_index (r95).dflt) (M95 x) f g = bif p95 x then f (v95 x) else g := rfl
theorem cq96 {β : Type} (x : (a96).den) (f : (r96).den → β) (g : β) : @cl (no_index (r96).den) β (no_index (r96).dflt) (M96 x) f g = bif p96 x then f (v96 x) else g := rfl
theorem cq119 {β : Type} (x : (a119).den) (f : (r119).den → β) (g : β) : @cl (no_index (r119).den) β (no_index (r119).dflt) (M119 x) f g = bif p119 x then f (v119 x) else g := rfl
theorem cq120 {β : Type} (x : (a120).den) (f : (r120).den → β) (g : β) : @cl (no_index (r120).den) β (no_index (r120).dflt) (M120 x) f g = bif p120 x then f (v120 x) else g := rfl
theorem cq103 {β : Type} (x : (a103).den) (f : (r103).den → β) (g : β) : @cl (no_index (r103).den) β (no_index (r103).dflt) (M103 x) f g = bif p103 x then f (v103 x) else g := rfl
theorem cq89 {β : Type} (x : (a89).den) (f : (r89).den → β) (g : β) : @cl (no_index (r89).den) β (no_index (r89).dflt) (M89 x) f g = bif p89 x then f (v89 x) else g := rfl
theorem cq90 {β : Type} (x : (a90).den) (f : (r90).den → β) (g : β) : @cl (no_index (r90).den) β (no_index (r90).dflt) (M90 x) f g = bif p90 x then f (v90 x) else g := rfl
end Go.Dm

