/-
  The walks of the document's answer for layer 18: whether a header may be, its bytes.
-/
import Derived.Test.YtfdijpacbhomjaaGreatDoorMsnd11
set_option linter.all false