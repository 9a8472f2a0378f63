/-
  The walks of mac: tags held against one another.
-/
import Derived.Test.YtofnagdofpcmpaaGreatDoorArcs01
set_option linter.all false