/- Where the functions of settings lie. -/
import Derived.Test.YtlnndkhnabooeaaQ1
