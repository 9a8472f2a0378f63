/-
  A function that is to do something behind its body.
  A function that is to do something behind its body: its walk.
  The walk of epoch.Next.
  The walks of header: its check.
  The walks of header: it is verified.
  The walk of header.Take.
  The walk of header.Take: what is no header.
  The walks of the document's answer for layer 1: numbers as bytes, and back; lists of texts.
  What header.Take answers, as a header and a number.
-/
import Derived.Test.YtofnagdofpcmpaaGreatDoorArcs06
import Derived.Defers
import Derived.Test.YtofnagdofpcmpaaGreatDoorArcs09
import Derived.Test.YtofnagdofpcmpaaGreatDoorArcs11
import Derived.Test.YtofnagdofpcmpaaGreatDoorArcs03
import Derived.Deep.RegionHeld3
import Derived.Deep.CutRange
set_option linter.all false